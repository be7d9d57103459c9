import Derived.Test.YtomfedhhfcelkaaWc
set_option linter.unusedSimpArgs false
set_option linter.unusedVariables false
namespace Go.Proofs.Ytomfedhhfcelkaa
open Go Go.Aw Go.Pl

theorem l01Same_ok (xs ys : List Int) : PureCall Try.prog 162 [.l1 xs, .l1 ys] (.bool (decide (xs = ys))) := by
  refine PureCall.intro (n := 26) (rs := [.tmp 4]) Try.call162 Try.func162 rfl rfl rfl (by simp only [List.length_cons, List.length_nil]; omega) (fun cx hcx => ats_of ?_)
  simp only [argSlots, Nat.zero_add, Nat.reduceAdd]
  repeat refine ats_seq ?_
  refine ats_go (by first | exact fix0 hcx | exact fix1 hcx rfl) fun K hK => ?_
  simp only [go_sem, Nat.reduceLT, Nat.reduceBNe, Nat.reduceBEq, Nat.reduceEqDiff, Nat.reduceAdd, Nat.reduceSub, Nat.reduceLeDiff, Int.reduceLE, Int.reduceLT, Int.reduceToNat, Int.reduceNeg, Int.reduceEq, ↓reduceIte, reduceCtorEq]
  refine hK _ ?_
  clear hK K
  refine ats_know 0 fun h0 => ?_
  simp only [St.get, slotGet, Nat.reduceEqDiff, ↓reduceIte, if_true, fact, facts] at h0
  repeat refine ats_seq ?_
  refine ats_go (by first | exact fix0 hcx | exact fix1 hcx rfl) fun K hK => ?_
  simp only [go_sem, Nat.reduceLT, Nat.reduceBNe, Nat.reduceBEq, Nat.reduceEqDiff, Nat.reduceAdd, Nat.reduceSub, Nat.reduceLeDiff, Int.reduceLE, Int.reduceLT, Int.reduceToNat, Int.reduceNeg, Int.reduceEq, ↓reduceIte, reduceCtorEq]
  refine hK _ ?_
  clear hK K
  repeat refine ats_seq ?_
  first | refine ats_ifn (p := _) rfl trivial (fun hc => ?_) (fun hc => ?_) | refine ats_ifp (p := _) rfl trivial (fun hc => ?_) (fun hc => ?_) | refine ats_cond rfl trivial (fun hc => ?_) (fun hc => ?_)
  · repeat refine ats_seq ?_
    refine ats_go (by first | exact fix0 hcx | exact fix1 hcx rfl) fun K hK => ?_
    simp only [go_sem, Nat.reduceLT, Nat.reduceBNe, Nat.reduceBEq, Nat.reduceEqDiff, Nat.reduceAdd, Nat.reduceSub, Nat.reduceLeDiff, Int.reduceLE, Int.reduceLT, Int.reduceToNat, Int.reduceNeg, Int.reduceEq, ↓reduceIte, reduceCtorEq]
    refine hK _ ?_
    clear hK K
    refine ats_ret (finB rfl ?_)
    simp only [Bool.false_eq, decide_eq_false_iff_not]
    exact fun e => hc (by rw [e])
  · refine ats_skip ?_
    repeat refine ats_seq ?_
    refine ats_go (by first | exact fix0 hcx | exact fix1 hcx rfl) fun K hK => ?_
    simp only [go_sem, Nat.reduceLT, Nat.reduceBNe, Nat.reduceBEq, Nat.reduceEqDiff, Nat.reduceAdd, Nat.reduceSub, Nat.reduceLeDiff, Int.reduceLE, Int.reduceLT, Int.reduceToNat, Int.reduceNeg, Int.reduceEq, ↓reduceIte, reduceCtorEq]
    refine hK _ ?_
    clear hK K
    repeat refine ats_seq ?_
    refine ats_loop (fun k : Nat => ⟨[(0, .l1 xs), (1, .l1 ys), (5, .int k)], []⟩) (fun k => k ≤ xs.length ∧ xs.take k = ys.take k) (fun k => xs.length - k) 0 ⟨Nat.zero_le _, rfl⟩ (by
      refine And.intro ?_ rfl
      simp only [SlotsLe, St.get, slotGet, Nat.reduceEqDiff, ↓reduceIte, AV.int.injEq, AV.bool.injEq, AV.l1.injEq, AV.l2.injEq, AV.l3.injEq, true_and, and_true]
      rfl) (fun k hk => ?_)
    repeat refine ats_seq ?_
    refine ats_go (by first | exact fix0 hcx | exact fix1 hcx rfl) fun K hK => ?_
    simp only [go_sem, Nat.reduceLT, Nat.reduceBNe, Nat.reduceBEq, Nat.reduceEqDiff, Nat.reduceAdd, Nat.reduceSub, Nat.reduceLeDiff, Int.reduceLE, Int.reduceLT, Int.reduceToNat, Int.reduceNeg, Int.reduceEq, ↓reduceIte, reduceCtorEq]
    refine hK _ ?_
    clear hK K
    repeat refine ats_seq ?_
    first | refine ats_ifn (p := _) rfl trivial (fun h1 => ?_) (fun h1 => ?_) | refine ats_ifp (p := _) rfl trivial (fun h1 => ?_) (fun h1 => ?_) | refine ats_cond rfl trivial (fun h1 => ?_) (fun h1 => ?_)
    · refine ats_skip ?_
      repeat refine ats_seq ?_
      refine ats_block ?_
      repeat refine ats_seq ?_
      refine ats_pick (fix0 hcx) mixed (by kernel_rfl) fun K hK => ?_
      simp only [go_sem, Nat.reduceLT, Nat.reduceBNe, Nat.reduceBEq, Nat.reduceEqDiff, Nat.reduceAdd, Nat.reduceSub, Nat.reduceLeDiff, Int.reduceLE, Int.reduceLT, Int.reduceToNat, Int.reduceNeg, Int.reduceEq, ↓reduceIte, reduceCtorEq]
      repeat refine And.intro (by first | omega | (intro hq; first | omega | (simp only [decide_eq_false_iff_not, decide_eq_true_eq, Bool.not_eq_false', Bool.not_eq_true'] at hq; omega))) ?_
      refine hK _ ?_
      clear hK K
      repeat refine ats_seq ?_
      first | refine ats_ifn (p := _) rfl trivial (fun h2 => ?_) (fun h2 => ?_) | refine ats_ifp (p := _) rfl trivial (fun h2 => ?_) (fun h2 => ?_) | refine ats_cond rfl trivial (fun h2 => ?_) (fun h2 => ?_)
      · repeat refine ats_seq ?_
        refine ats_go (by first | exact fix0 hcx | exact fix1 hcx rfl) fun K hK => ?_
        simp only [go_sem, Nat.reduceLT, Nat.reduceBNe, Nat.reduceBEq, Nat.reduceEqDiff, Nat.reduceAdd, Nat.reduceSub, Nat.reduceLeDiff, Int.reduceLE, Int.reduceLT, Int.reduceToNat, Int.reduceNeg, Int.reduceEq, ↓reduceIte, reduceCtorEq]
        refine hK _ ?_
        clear hK K
        refine ats_ret (finB rfl ?_)
        simp only [Bool.false_eq, decide_eq_false_iff_not]
        exact ne_of_getD h2
      · refine ats_skip ?_
        have := h0.1
        repeat refine ats_seq ?_
        refine ats_go (by first | exact fix0 hcx | exact fix1 hcx rfl) fun K hK => ?_
        simp only [go_sem, Nat.reduceLT, Nat.reduceBNe, Nat.reduceBEq, Nat.reduceEqDiff, Nat.reduceAdd, Nat.reduceSub, Nat.reduceLeDiff, Int.reduceLE, Int.reduceLT, Int.reduceToNat, Int.reduceNeg, Int.reduceEq, ↓reduceIte, reduceCtorEq]
        repeat refine And.intro (by first | omega | (intro hq; first | omega | (simp only [decide_eq_false_iff_not, decide_eq_true_eq, Bool.not_eq_false', Bool.not_eq_true'] at hq; omega))) ?_
        refine hK _ ?_
        clear hK K
        refine ⟨k + 1,  ⟨by omega, take_succ_eq (by omega) (by omega) hk.2 h2⟩, by omega, .inl ⟨?_, rfl⟩⟩
        simp only [SlotsLe, St.get, slotGet, Nat.reduceEqDiff, ↓reduceIte, AV.int.injEq, AV.bool.injEq, AV.l1.injEq, AV.l2.injEq, AV.l3.injEq, true_and, and_true]
        omega
    · refine ats_exit (lq_x ?_)
      repeat refine ats_seq ?_
      refine ats_go (by first | exact fix0 hcx | exact fix1 hcx rfl) fun K hK => ?_
      simp only [go_sem, Nat.reduceLT, Nat.reduceBNe, Nat.reduceBEq, Nat.reduceEqDiff, Nat.reduceAdd, Nat.reduceSub, Nat.reduceLeDiff, Int.reduceLE, Int.reduceLT, Int.reduceToNat, Int.reduceNeg, Int.reduceEq, ↓reduceIte, reduceCtorEq]
      refine hK _ ?_
      clear hK K
      refine ats_ret (finB rfl ?_)
      have e : k = xs.length := by omega
      have h := hk.2
      rw [List.take_of_length_le (by omega), List.take_of_length_le (by omega)] at h
      simp only [h, decide_true]
theorem l01Same2_ok (xs ys : List (List Int)) : PureCall Try.prog 121 [.l2 xs, .l2 ys] (.bool (decide (xs = ys))) := by
  refine PureCall.intro (n := 27) (rs := [.tmp 4]) Try.call121 Try.func121 rfl rfl rfl (by simp only [List.length_cons, List.length_nil]; omega) (fun cx hcx => ats_of ?_)
  simp only [argSlots, Nat.zero_add, Nat.reduceAdd]
  repeat refine ats_seq ?_
  refine ats_go (by first | exact fix0 hcx | exact fix1 hcx rfl) fun K hK => ?_
  simp only [go_sem, Nat.reduceLT, Nat.reduceBNe, Nat.reduceBEq, Nat.reduceEqDiff, Nat.reduceAdd, Nat.reduceSub, Nat.reduceLeDiff, Int.reduceLE, Int.reduceLT, Int.reduceToNat, Int.reduceNeg, Int.reduceEq, ↓reduceIte, reduceCtorEq]
  refine hK _ ?_
  clear hK K
  refine ats_know 0 fun h0 => ?_
  simp only [St.get, slotGet, Nat.reduceEqDiff, ↓reduceIte, if_true, fact, facts] at h0
  repeat refine ats_seq ?_
  refine ats_go (by first | exact fix0 hcx | exact fix1 hcx rfl) fun K hK => ?_
  simp only [go_sem, Nat.reduceLT, Nat.reduceBNe, Nat.reduceBEq, Nat.reduceEqDiff, Nat.reduceAdd, Nat.reduceSub, Nat.reduceLeDiff, Int.reduceLE, Int.reduceLT, Int.reduceToNat, Int.reduceNeg, Int.reduceEq, ↓reduceIte, reduceCtorEq]
  refine hK _ ?_
  clear hK K
  repeat refine ats_seq ?_
  first | refine ats_ifn (p := _) rfl trivial (fun hc => ?_) (fun hc => ?_) | refine ats_ifp (p := _) rfl trivial (fun hc => ?_) (fun hc => ?_) | refine ats_cond rfl trivial (fun hc => ?_) (fun hc => ?_)
  · repeat refine ats_seq ?_
    refine ats_go (by first | exact fix0 hcx | exact fix1 hcx rfl) fun K hK => ?_
    simp only [go_sem, Nat.reduceLT, Nat.reduceBNe, Nat.reduceBEq, Nat.reduceEqDiff, Nat.reduceAdd, Nat.reduceSub, Nat.reduceLeDiff, Int.reduceLE, Int.reduceLT, Int.reduceToNat, Int.reduceNeg, Int.reduceEq, ↓reduceIte, reduceCtorEq]
    refine hK _ ?_
    clear hK K
    refine ats_ret (finB rfl ?_)
    simp only [Bool.false_eq, decide_eq_false_iff_not]
    exact fun e => hc (by rw [e])
  · refine ats_skip ?_
    repeat refine ats_seq ?_
    refine ats_go (by first | exact fix0 hcx | exact fix1 hcx rfl) fun K hK => ?_
    simp only [go_sem, Nat.reduceLT, Nat.reduceBNe, Nat.reduceBEq, Nat.reduceEqDiff, Nat.reduceAdd, Nat.reduceSub, Nat.reduceLeDiff, Int.reduceLE, Int.reduceLT, Int.reduceToNat, Int.reduceNeg, Int.reduceEq, ↓reduceIte, reduceCtorEq]
    refine hK _ ?_
    clear hK K
    repeat refine ats_seq ?_
    refine ats_loop (fun k : Nat => ⟨[(0, .l2 xs), (1, .l2 ys), (5, .int k)], []⟩) (fun k => k ≤ xs.length ∧ xs.take k = ys.take k) (fun k => xs.length - k) 0 ⟨Nat.zero_le _, rfl⟩ (by
      refine And.intro ?_ rfl
      simp only [SlotsLe, St.get, slotGet, Nat.reduceEqDiff, ↓reduceIte, AV.int.injEq, AV.bool.injEq, AV.l1.injEq, AV.l2.injEq, AV.l3.injEq, true_and, and_true]
      rfl) (fun k hk => ?_)
    repeat refine ats_seq ?_
    refine ats_go (by first | exact fix0 hcx | exact fix1 hcx rfl) fun K hK => ?_
    simp only [go_sem, Nat.reduceLT, Nat.reduceBNe, Nat.reduceBEq, Nat.reduceEqDiff, Nat.reduceAdd, Nat.reduceSub, Nat.reduceLeDiff, Int.reduceLE, Int.reduceLT, Int.reduceToNat, Int.reduceNeg, Int.reduceEq, ↓reduceIte, reduceCtorEq]
    refine hK _ ?_
    clear hK K
    repeat refine ats_seq ?_
    first | refine ats_ifn (p := _) rfl trivial (fun h1 => ?_) (fun h1 => ?_) | refine ats_ifp (p := _) rfl trivial (fun h1 => ?_) (fun h1 => ?_) | refine ats_cond rfl trivial (fun h1 => ?_) (fun h1 => ?_)
    · refine ats_skip ?_
      repeat refine ats_seq ?_
      refine ats_block ?_
      repeat refine ats_seq ?_
      refine ats_pick (fix0 hcx) mixed (by kernel_rfl) fun K hK => ?_
      simp only [go_sem, Nat.reduceLT, Nat.reduceBNe, Nat.reduceBEq, Nat.reduceEqDiff, Nat.reduceAdd, Nat.reduceSub, Nat.reduceLeDiff, Int.reduceLE, Int.reduceLT, Int.reduceToNat, Int.reduceNeg, Int.reduceEq, ↓reduceIte, reduceCtorEq]
      repeat refine And.intro (by first | omega | (intro hq; first | omega | (simp only [decide_eq_false_iff_not, decide_eq_true_eq, Bool.not_eq_false', Bool.not_eq_true'] at hq; omega))) ?_
      first | refine fcall_free rfl rfl (l01Same_ok _ _) ?_ | refine YR_intro (acall_free rfl rfl (l01Same_ok _ _)) ?_
      simp only [go_sem, Nat.reduceLT, Nat.reduceBNe, Nat.reduceBEq, Nat.reduceEqDiff, Nat.reduceAdd, Nat.reduceSub, Nat.reduceLeDiff, Int.reduceLE, Int.reduceLT, Int.reduceToNat, Int.reduceNeg, Int.reduceEq, ↓reduceIte, reduceCtorEq]
      refine hK _ ?_
      clear hK K
      repeat refine ats_seq ?_
      first | refine ats_ifn (p := _) rfl trivial (fun h2 => ?_) (fun h2 => ?_) | refine ats_ifp (p := _) rfl trivial (fun h2 => ?_) (fun h2 => ?_) | refine ats_cond rfl trivial (fun h2 => ?_) (fun h2 => ?_)
      · repeat refine ats_seq ?_
        refine ats_go (by first | exact fix0 hcx | exact fix1 hcx rfl) fun K hK => ?_
        simp only [go_sem, Nat.reduceLT, Nat.reduceBNe, Nat.reduceBEq, Nat.reduceEqDiff, Nat.reduceAdd, Nat.reduceSub, Nat.reduceLeDiff, Int.reduceLE, Int.reduceLT, Int.reduceToNat, Int.reduceNeg, Int.reduceEq, ↓reduceIte, reduceCtorEq]
        refine hK _ ?_
        clear hK K
        refine ats_ret (finB rfl ?_)
        simp only [Bool.false_eq, decide_eq_false_iff_not]
        exact ne_of_getD h2
      · refine ats_skip ?_
        have := h0.1
        repeat refine ats_seq ?_
        refine ats_go (by first | exact fix0 hcx | exact fix1 hcx rfl) fun K hK => ?_
        simp only [go_sem, Nat.reduceLT, Nat.reduceBNe, Nat.reduceBEq, Nat.reduceEqDiff, Nat.reduceAdd, Nat.reduceSub, Nat.reduceLeDiff, Int.reduceLE, Int.reduceLT, Int.reduceToNat, Int.reduceNeg, Int.reduceEq, ↓reduceIte, reduceCtorEq]
        repeat refine And.intro (by first | omega | (intro hq; first | omega | (simp only [decide_eq_false_iff_not, decide_eq_true_eq, Bool.not_eq_false', Bool.not_eq_true'] at hq; omega))) ?_
        refine hK _ ?_
        clear hK K
        refine ⟨k + 1,  ⟨by omega, take_succ_eq (by omega) (by omega) hk.2 h2⟩, by omega, .inl ⟨?_, rfl⟩⟩
        simp only [SlotsLe, St.get, slotGet, Nat.reduceEqDiff, ↓reduceIte, AV.int.injEq, AV.bool.injEq, AV.l1.injEq, AV.l2.injEq, AV.l3.injEq, true_and, and_true]
        omega
    · refine ats_exit (lq_x ?_)
      repeat refine ats_seq ?_
      refine ats_go (by first | exact fix0 hcx | exact fix1 hcx rfl) fun K hK => ?_
      simp only [go_sem, Nat.reduceLT, Nat.reduceBNe, Nat.reduceBEq, Nat.reduceEqDiff, Nat.reduceAdd, Nat.reduceSub, Nat.reduceLeDiff, Int.reduceLE, Int.reduceLT, Int.reduceToNat, Int.reduceNeg, Int.reduceEq, ↓reduceIte, reduceCtorEq]
      refine hK _ ?_
      clear hK K
      refine ats_ret (finB rfl ?_)
      have e : k = xs.length := by omega
      have h := hk.2
      rw [List.take_of_length_le (by omega), List.take_of_length_le (by omega)] at h
      simp only [h, decide_true]
theorem l03Is_ok (t : List (List (List Int))) : PureCall Try.prog 69 [.agg [.l3 t]] (.bool (isRing t)) := by
  have hk := l03Cube_ok t
  refine PureCall.intro (n := 13) (rs := [.tmp 2]) Try.call69 Try.func69 rfl rfl rfl (by simp only [List.length_cons, List.length_nil]; omega) (fun cx hcx => ats_of ?_)
  simp only [argSlots, Nat.zero_add, Nat.reduceAdd]
  repeat refine ats_seq ?_
  refine ats_go (by first | exact fix0 hcx | exact fix1 hcx rfl) fun K hK => ?_
  simp only [go_sem, Nat.reduceLT, Nat.reduceBNe, Nat.reduceBEq, Nat.reduceEqDiff, Nat.reduceAdd, Nat.reduceSub, Nat.reduceLeDiff, Int.reduceLE, Int.reduceLT, Int.reduceToNat, Int.reduceNeg, Int.reduceEq, ↓reduceIte, reduceCtorEq]
  refine hK _ ?_
  clear hK K
  by_cases hc : Cube t
  · rw [bd_true hc] at hk
    have hf := l03Fault_ok t hc
    cases e : faultF t with
    | some u =>
      rw [e] at hf
      simp only [optA] at hf
      have hne := faultF_ne e
      repeat refine ats_seq ?_
      refine ats_go (by first | exact fix0 hcx | exact fix1 hcx rfl) fun K hK => ?_
      simp only [go_sem, Nat.reduceLT, Nat.reduceBNe, Nat.reduceBEq, Nat.reduceEqDiff, Nat.reduceAdd, Nat.reduceSub, Nat.reduceLeDiff, Int.reduceLE, Int.reduceLT, Int.reduceToNat, Int.reduceNeg, Int.reduceEq, ↓reduceIte, reduceCtorEq]
      first | refine fcall_free rfl rfl (hk) ?_ | refine YR_intro (acall_free rfl rfl (hk)) ?_
      simp only [go_sem, Nat.reduceLT, Nat.reduceBNe, Nat.reduceBEq, Nat.reduceEqDiff, Nat.reduceAdd, Nat.reduceSub, Nat.reduceLeDiff, Int.reduceLE, Int.reduceLT, Int.reduceToNat, Int.reduceNeg, Int.reduceEq, ↓reduceIte, reduceCtorEq]
      first | refine YR_intro (fun _ => acall_data (hf) rfl) ?_ | refine YR_intro (acall_data (hf) rfl) ?_
      simp only [go_sem, Nat.reduceLT, Nat.reduceBNe, Nat.reduceBEq, Nat.reduceEqDiff, Nat.reduceAdd, Nat.reduceSub, Nat.reduceLeDiff, Int.reduceLE, Int.reduceLT, Int.reduceToNat, Int.reduceNeg, Int.reduceEq, ↓reduceIte, reduceCtorEq]
      repeat refine And.intro (by first | omega | (intro hq; first | omega | (simp only [decide_eq_false_iff_not, decide_eq_true_eq, Bool.not_eq_false', Bool.not_eq_true'] at hq; omega))) ?_
      refine hK _ ?_
      clear hK K
      refine ats_ret (finB rfl ?_)
      simp only [isRing]
      rw [bd_false (fun h => by rw [e] at h; cases h.2)]
      simp only [decide_eq_false_iff_not]
      omega
    | none =>
      rw [e] at hf
      simp only [optA] at hf
      repeat refine ats_seq ?_
      refine ats_go (by first | exact fix0 hcx | exact fix1 hcx rfl) fun K hK => ?_
      simp only [go_sem, Nat.reduceLT, Nat.reduceBNe, Nat.reduceBEq, Nat.reduceEqDiff, Nat.reduceAdd, Nat.reduceSub, Nat.reduceLeDiff, Int.reduceLE, Int.reduceLT, Int.reduceToNat, Int.reduceNeg, Int.reduceEq, ↓reduceIte, reduceCtorEq]
      first | refine fcall_free rfl rfl (hk) ?_ | refine YR_intro (acall_free rfl rfl (hk)) ?_
      simp only [go_sem, Nat.reduceLT, Nat.reduceBNe, Nat.reduceBEq, Nat.reduceEqDiff, Nat.reduceAdd, Nat.reduceSub, Nat.reduceLeDiff, Int.reduceLE, Int.reduceLT, Int.reduceToNat, Int.reduceNeg, Int.reduceEq, ↓reduceIte, reduceCtorEq]
      first | refine YR_intro (fun _ => acall_data (hf) rfl) ?_ | refine YR_intro (acall_data (hf) rfl) ?_
      simp only [go_sem, Nat.reduceLT, Nat.reduceBNe, Nat.reduceBEq, Nat.reduceEqDiff, Nat.reduceAdd, Nat.reduceSub, Nat.reduceLeDiff, Int.reduceLE, Int.reduceLT, Int.reduceToNat, Int.reduceNeg, Int.reduceEq, ↓reduceIte, reduceCtorEq]
      refine hK _ ?_
      clear hK K
      refine ats_ret (finB rfl ?_)
      simp only [isRing]
      rw [bd_true ⟨hc, e⟩]
      try rfl
  · rw [bd_false hc] at hk
    repeat refine ats_seq ?_
    refine ats_go (by first | exact fix0 hcx | exact fix1 hcx rfl) fun K hK => ?_
    simp only [go_sem, Nat.reduceLT, Nat.reduceBNe, Nat.reduceBEq, Nat.reduceEqDiff, Nat.reduceAdd, Nat.reduceSub, Nat.reduceLeDiff, Int.reduceLE, Int.reduceLT, Int.reduceToNat, Int.reduceNeg, Int.reduceEq, ↓reduceIte, reduceCtorEq]
    first | refine fcall_free rfl rfl (hk) ?_ | refine YR_intro (acall_free rfl rfl (hk)) ?_
    simp only [go_sem, Nat.reduceLT, Nat.reduceBNe, Nat.reduceBEq, Nat.reduceEqDiff, Nat.reduceAdd, Nat.reduceSub, Nat.reduceLeDiff, Int.reduceLE, Int.reduceLT, Int.reduceToNat, Int.reduceNeg, Int.reduceEq, ↓reduceIte, reduceCtorEq]
    refine YR_intro (v := .nil) (by first | trivial | (intro h; cases h)) ?_
    simp only [go_sem, Nat.reduceLT, Nat.reduceBNe, Nat.reduceBEq, Nat.reduceEqDiff, Nat.reduceAdd, Nat.reduceSub, Nat.reduceLeDiff, Int.reduceLE, Int.reduceLT, Int.reduceToNat, Int.reduceNeg, Int.reduceEq, ↓reduceIte, reduceCtorEq]
    refine hK _ ?_
    clear hK K
    refine ats_ret (finB rfl ?_)
    simp only [isRing]
    rw [bd_false (fun h => hc h.1)]

theorem l03Duals_ok (t : List (List (List Int))) (hc : Cube t) : PureCall Try.prog 124 [.agg [.l3 t]] (.l1 (ds t)) := by
  have h16 := hc.2.1
  have h1 := hc.1
  refine PureCall.intro (n := 21) (rs := [.tmp 2]) Try.call124 Try.func124 rfl rfl rfl (by simp only [List.length_cons, List.length_nil]; omega) (fun cx hcx => ats_of ?_)
  simp only [argSlots, Nat.zero_add, Nat.reduceAdd]
  repeat refine ats_seq ?_
  refine ats_go (by first | exact fix0 hcx | exact fix1 hcx rfl) fun K hK => ?_
  simp only [go_sem, Nat.reduceLT, Nat.reduceBNe, Nat.reduceBEq, Nat.reduceEqDiff, Nat.reduceAdd, Nat.reduceSub, Nat.reduceLeDiff, Int.reduceLE, Int.reduceLT, Int.reduceToNat, Int.reduceNeg, Int.reduceEq, ↓reduceIte, reduceCtorEq]
  refine hK _ ?_
  clear hK K
  repeat refine ats_seq ?_
  refine ats_go (by first | exact fix0 hcx | exact fix1 hcx rfl) fun K hK => ?_
  simp only [go_sem, Nat.reduceLT, Nat.reduceBNe, Nat.reduceBEq, Nat.reduceEqDiff, Nat.reduceAdd, Nat.reduceSub, Nat.reduceLeDiff, Int.reduceLE, Int.reduceLT, Int.reduceToNat, Int.reduceNeg, Int.reduceEq, ↓reduceIte, reduceCtorEq]
  refine hK _ ?_
  clear hK K
  repeat refine ats_seq ?_
  refine ats_go (by first | exact fix0 hcx | exact fix1 hcx rfl) fun K hK => ?_
  simp only [go_sem, Nat.reduceLT, Nat.reduceBNe, Nat.reduceBEq, Nat.reduceEqDiff, Nat.reduceAdd, Nat.reduceSub, Nat.reduceLeDiff, Int.reduceLE, Int.reduceLT, Int.reduceToNat, Int.reduceNeg, Int.reduceEq, ↓reduceIte, reduceCtorEq]
  refine hK _ ?_
  clear hK K
  repeat refine ats_seq ?_
  refine ats_loop (fun i : Nat => ⟨[(1, .bptr 0 0), (3, .ref 1 []), (4, .int i)], [(0, .bx [.l3 t]), (1, .t1 ((List.range i).map (dual t)))]⟩) (fun i => i ≤ t.length) (fun i => t.length - i) 0 (Nat.zero_le _) (by
    refine And.intro ?_ rfl
    simp only [SlotsLe, St.get, slotGet, Nat.reduceEqDiff, ↓reduceIte, true_and, and_true, AV.int.injEq]
    rfl) (fun i hi => ?_)
  repeat refine ats_seq ?_
  refine ats_go (by first | exact fix0 hcx | exact fix1 hcx rfl) fun K hK => ?_
  simp only [go_sem, Nat.reduceLT, Nat.reduceBNe, Nat.reduceBEq, Nat.reduceEqDiff, Nat.reduceAdd, Nat.reduceSub, Nat.reduceLeDiff, Int.reduceLE, Int.reduceLT, Int.reduceToNat, Int.reduceNeg, Int.reduceEq, ↓reduceIte, reduceCtorEq]
  refine hK _ ?_
  clear hK K
  repeat refine ats_seq ?_
  first | refine ats_ifn (p := _) rfl trivial (fun hli => ?_) (fun hli => ?_) | refine ats_ifp (p := _) rfl trivial (fun hli => ?_) (fun hli => ?_) | refine ats_cond rfl trivial (fun hli => ?_) (fun hli => ?_)
  · have hl : ((List.range i).map (dual t)).length = i := by simp
    refine ats_skip ?_
    repeat refine ats_seq ?_
    refine ats_block ?_
    repeat refine ats_seq ?_
    refine ats_go (by first | exact fix0 hcx | exact fix1 hcx rfl) fun K hK => ?_
    simp only [go_sem, Nat.reduceLT, Nat.reduceBNe, Nat.reduceBEq, Nat.reduceEqDiff, Nat.reduceAdd, Nat.reduceSub, Nat.reduceLeDiff, Int.reduceLE, Int.reduceLT, Int.reduceToNat, Int.reduceNeg, Int.reduceEq, ↓reduceIte, reduceCtorEq]
    first | refine fcall_free rfl rfl (l03Dual_ok t hc i (by omega)) ?_ | refine YR_intro (acall_free rfl rfl (l03Dual_ok t hc i (by omega))) ?_
    simp only [go_sem, Nat.reduceLT, Nat.reduceBNe, Nat.reduceBEq, Nat.reduceEqDiff, Nat.reduceAdd, Nat.reduceSub, Nat.reduceLeDiff, Int.reduceLE, Int.reduceLT, Int.reduceToNat, Int.reduceNeg, Int.reduceEq, ↓reduceIte, reduceCtorEq]
    repeat refine And.intro (by (first | omega | (rw [hl]; omega))) ?_
    refine hK _ ?_
    clear hK K
    repeat refine ats_seq ?_
    refine ats_go (by first | exact fix0 hcx | exact fix1 hcx rfl) fun K hK => ?_
    simp only [go_sem, Nat.reduceLT, Nat.reduceBNe, Nat.reduceBEq, Nat.reduceEqDiff, Nat.reduceAdd, Nat.reduceSub, Nat.reduceLeDiff, Int.reduceLE, Int.reduceLT, Int.reduceToNat, Int.reduceNeg, Int.reduceEq, ↓reduceIte, reduceCtorEq]
    repeat refine And.intro (by first | omega | (intro hq; first | omega | (simp only [decide_eq_false_iff_not, decide_eq_true_eq, Bool.not_eq_false', Bool.not_eq_true'] at hq; omega))) ?_
    refine hK _ ?_
    clear hK K
    refine ⟨i + 1, by omega, by omega, .inr ⟨[2], by simp only [killL, List.map_cons, List.map_nil, killA, killAs, qOf, rmT, killH, killT, List.filter_cons, List.filter_nil, List.contains_cons, List.contains_nil, SlotsLe, St.get, slotGet, Nat.reduceEqDiff, Nat.reduceBEq, Bool.or_false, Bool.or_true, Bool.false_and, Bool.not_true, Bool.not_false, Bool.false_eq_true, ↓reduceIte, if_true, if_false, AV.int.injEq, AV.bool.injEq, AV.l1.injEq, AV.l2.injEq, AV.l3.injEq, true_and, and_true]; omega, by simp only [killL, List.map_cons, List.map_nil, killA, killAs, qOf, rmT, killH, killT, List.filter_cons, List.filter_nil, List.contains_cons, List.contains_nil, SlotsLe, St.get, slotGet, Nat.reduceEqDiff, Nat.reduceBEq, Bool.or_false, Bool.or_true, Bool.false_and, Bool.not_true, Bool.not_false, Bool.false_eq_true, ↓reduceIte, if_true, if_false, AV.int.injEq, AV.bool.injEq, AV.l1.injEq, AV.l2.injEq, AV.l3.injEq, true_and, and_true]; simp only [List.range_succ, List.map_append, List.map_cons, List.map_nil]⟩⟩
  · obtain rfl : i = t.length := by omega
    refine ats_exit (lq_x ?_)
    repeat refine ats_seq ?_
    refine ats_go (by first | exact fix0 hcx | exact fix1 hcx rfl) fun K hK => ?_
    simp only [go_sem, Nat.reduceLT, Nat.reduceBNe, Nat.reduceBEq, Nat.reduceEqDiff, Nat.reduceAdd, Nat.reduceSub, Nat.reduceLeDiff, Int.reduceLE, Int.reduceLT, Int.reduceToNat, Int.reduceNeg, Int.reduceEq, ↓reduceIte, reduceCtorEq]
    refine hK _ ?_
    clear hK K
    exact ats_ret (finV rfl ⟨rfl, trivial⟩ rfl)

theorem l02Unit_ok (n : Nat) (hn : n ≤ 16) : PureCall Try.prog 122 [.int n] (.l2 (unitM n)) := by
  refine PureCall.intro (n := 22) (rs := [.tmp 2]) Try.call122 Try.func122 rfl rfl rfl (by simp only [List.length_cons, List.length_nil]; omega) (fun cx hcx => ats_of ?_)
  simp only [argSlots, Nat.zero_add, Nat.reduceAdd]
  repeat refine ats_seq ?_
  refine ats_go (by first | exact fix0 hcx | exact fix1 hcx rfl) fun K hK => ?_
  simp only [go_sem, Nat.reduceLT, Nat.reduceBNe, Nat.reduceBEq, Nat.reduceEqDiff, Nat.reduceAdd, Nat.reduceSub, Nat.reduceLeDiff, Int.reduceLE, Int.reduceLT, Int.reduceToNat, Int.reduceNeg, Int.reduceEq, ↓reduceIte, reduceCtorEq]
  refine hK _ ?_
  clear hK K
  repeat refine ats_seq ?_
  refine ats_go (by first | exact fix0 hcx | exact fix1 hcx rfl) fun K hK => ?_
  simp only [go_sem, Nat.reduceLT, Nat.reduceBNe, Nat.reduceBEq, Nat.reduceEqDiff, Nat.reduceAdd, Nat.reduceSub, Nat.reduceLeDiff, Int.reduceLE, Int.reduceLT, Int.reduceToNat, Int.reduceNeg, Int.reduceEq, ↓reduceIte, reduceCtorEq]
  refine hK _ ?_
  clear hK K
  repeat refine ats_seq ?_
  refine ats_go (by first | exact fix0 hcx | exact fix1 hcx rfl) fun K hK => ?_
  simp only [go_sem, Nat.reduceLT, Nat.reduceBNe, Nat.reduceBEq, Nat.reduceEqDiff, Nat.reduceAdd, Nat.reduceSub, Nat.reduceLeDiff, Int.reduceLE, Int.reduceLT, Int.reduceToNat, Int.reduceNeg, Int.reduceEq, ↓reduceIte, reduceCtorEq]
  refine hK _ ?_
  clear hK K
  repeat refine ats_seq ?_
  refine ats_loop (fun i : Nat => ⟨[(0, .int n), (3, .ref 0 []), (4, .int i)], [(0, .t2 ((List.range i).map fun i => (List.replicate n 0).set i 1))]⟩) (fun i => i ≤ n) (fun i => n - i) 0 (Nat.zero_le _) (by
    refine And.intro ?_ rfl
    simp only [SlotsLe, St.get, slotGet, Nat.reduceEqDiff, ↓reduceIte, true_and, and_true, AV.int.injEq]
    rfl) (fun i hi => ?_)
  repeat refine ats_seq ?_
  refine ats_go (by first | exact fix0 hcx | exact fix1 hcx rfl) fun K hK => ?_
  simp only [go_sem, Nat.reduceLT, Nat.reduceBNe, Nat.reduceBEq, Nat.reduceEqDiff, Nat.reduceAdd, Nat.reduceSub, Nat.reduceLeDiff, Int.reduceLE, Int.reduceLT, Int.reduceToNat, Int.reduceNeg, Int.reduceEq, ↓reduceIte, reduceCtorEq]
  refine hK _ ?_
  clear hK K
  repeat refine ats_seq ?_
  first | refine ats_ifn (p := _) rfl trivial (fun hli => ?_) (fun hli => ?_) | refine ats_ifp (p := _) rfl trivial (fun hli => ?_) (fun hli => ?_) | refine ats_cond rfl trivial (fun hli => ?_) (fun hli => ?_)
  · have hl : ((List.range i).map fun i => (List.replicate n (0 : Int)).set i 1).length = i := by simp
    refine ats_skip ?_
    repeat refine ats_seq ?_
    refine ats_block ?_
    repeat refine ats_seq ?_
    refine ats_go (by first | exact fix0 hcx | exact fix1 hcx rfl) fun K hK => ?_
    simp only [go_sem, Nat.reduceLT, Nat.reduceBNe, Nat.reduceBEq, Nat.reduceEqDiff, Nat.reduceAdd, Nat.reduceSub, Nat.reduceLeDiff, Int.reduceLE, Int.reduceLT, Int.reduceToNat, Int.reduceNeg, Int.reduceEq, ↓reduceIte, reduceCtorEq]
    repeat refine And.intro (by first | omega | (intro hq; first | omega | (simp only [decide_eq_false_iff_not, decide_eq_true_eq, Bool.not_eq_false', Bool.not_eq_true'] at hq; omega))) ?_
    refine hK _ ?_
    clear hK K
    have hr : (List.replicate n (0 : Int)).length = n := List.length_replicate
    repeat refine ats_seq ?_
    refine ats_go (by first | exact fix0 hcx | exact fix1 hcx rfl) fun K hK => ?_
    simp only [go_sem, Nat.reduceLT, Nat.reduceBNe, Nat.reduceBEq, Nat.reduceEqDiff, Nat.reduceAdd, Nat.reduceSub, Nat.reduceLeDiff, Int.reduceLE, Int.reduceLT, Int.reduceToNat, Int.reduceNeg, Int.reduceEq, ↓reduceIte, reduceCtorEq]
    simp only [List.length_replicate]
    repeat refine And.intro (by first | omega | (intro hq; first | omega | (simp only [decide_eq_false_iff_not, decide_eq_true_eq, Bool.not_eq_false', Bool.not_eq_true'] at hq; omega))) ?_
    refine hK _ ?_
    clear hK K
    repeat refine ats_seq ?_
    refine ats_go (by first | exact fix0 hcx | exact fix1 hcx rfl) fun K hK => ?_
    simp only [go_sem, Nat.reduceLT, Nat.reduceBNe, Nat.reduceBEq, Nat.reduceEqDiff, Nat.reduceAdd, Nat.reduceSub, Nat.reduceLeDiff, Int.reduceLE, Int.reduceLT, Int.reduceToNat, Int.reduceNeg, Int.reduceEq, ↓reduceIte, reduceCtorEq]
    repeat refine And.intro (by (first | omega | (rw [hl]; omega))) ?_
    refine hK _ ?_
    clear hK K
    repeat refine ats_seq ?_
    refine ats_go (by first | exact fix0 hcx | exact fix1 hcx rfl) fun K hK => ?_
    simp only [go_sem, Nat.reduceLT, Nat.reduceBNe, Nat.reduceBEq, Nat.reduceEqDiff, Nat.reduceAdd, Nat.reduceSub, Nat.reduceLeDiff, Int.reduceLE, Int.reduceLT, Int.reduceToNat, Int.reduceNeg, Int.reduceEq, ↓reduceIte, reduceCtorEq]
    repeat refine And.intro (by first | omega | (intro hq; first | omega | (simp only [decide_eq_false_iff_not, decide_eq_true_eq, Bool.not_eq_false', Bool.not_eq_true'] at hq; omega))) ?_
    refine hK _ ?_
    clear hK K
    refine ⟨i + 1,  by omega, by omega, .inl ⟨by simp only [SlotsLe, St.get, slotGet, Nat.reduceEqDiff, ↓reduceIte, AV.int.injEq, AV.bool.injEq, AV.l1.injEq, AV.l2.injEq, AV.l3.injEq, true_and, and_true]; omega,  by simp only [List.range_succ, List.map_append, List.map_cons, List.map_nil]⟩⟩
  · obtain rfl : i = n := by omega
    refine ats_exit (lq_x ?_)
    repeat refine ats_seq ?_
    refine ats_go (by first | exact fix0 hcx | exact fix1 hcx rfl) fun K hK => ?_
    simp only [go_sem, Nat.reduceLT, Nat.reduceBNe, Nat.reduceBEq, Nat.reduceEqDiff, Nat.reduceAdd, Nat.reduceSub, Nat.reduceLeDiff, Int.reduceLE, Int.reduceLT, Int.reduceToNat, Int.reduceNeg, Int.reduceEq, ↓reduceIte, reduceCtorEq]
    refine hK _ ?_
    clear hK K
    exact ats_ret (finV rfl ⟨rfl, trivial⟩ rfl)

theorem l02Turn_ok (a : List (List Int)) (h0 : 0 < a.length) (h1 : a.length ≤ 16) (hm : (a.getD 0 []).length ≤ 16) (hr : ∀ i, i < a.length → (a.getD i []).length = (a.getD 0 []).length) : PureCall Try.prog 125 [.l2 a] (.l2 (turnM a)) := by
  refine PureCall.intro (n := 38) (rs := [.tmp 2]) Try.call125 Try.func125 rfl rfl rfl (by simp only [List.length_cons, List.length_nil]; omega) (fun cx hcx => ats_of ?_)
  simp only [argSlots, Nat.zero_add, Nat.reduceAdd]
  repeat refine ats_seq ?_
  refine ats_go (by first | exact fix0 hcx | exact fix1 hcx rfl) fun K hK => ?_
  simp only [go_sem, Nat.reduceLT, Nat.reduceBNe, Nat.reduceBEq, Nat.reduceEqDiff, Nat.reduceAdd, Nat.reduceSub, Nat.reduceLeDiff, Int.reduceLE, Int.reduceLT, Int.reduceToNat, Int.reduceNeg, Int.reduceEq, ↓reduceIte, reduceCtorEq]
  refine hK _ ?_
  clear hK K
  repeat refine ats_seq ?_
  refine ats_go (by first | exact fix0 hcx | exact fix1 hcx rfl) fun K hK => ?_
  simp only [go_sem, Nat.reduceLT, Nat.reduceBNe, Nat.reduceBEq, Nat.reduceEqDiff, Nat.reduceAdd, Nat.reduceSub, Nat.reduceLeDiff, Int.reduceLE, Int.reduceLT, Int.reduceToNat, Int.reduceNeg, Int.reduceEq, ↓reduceIte, reduceCtorEq]
  refine hK _ ?_
  clear hK K
  repeat refine ats_seq ?_
  refine ats_go (by first | exact fix0 hcx | exact fix1 hcx rfl) fun K hK => ?_
  simp only [go_sem, Nat.reduceLT, Nat.reduceBNe, Nat.reduceBEq, Nat.reduceEqDiff, Nat.reduceAdd, Nat.reduceSub, Nat.reduceLeDiff, Int.reduceLE, Int.reduceLT, Int.reduceToNat, Int.reduceNeg, Int.reduceEq, ↓reduceIte, reduceCtorEq]
  refine hK _ ?_
  clear hK K
  repeat refine ats_seq ?_
  refine ats_loop (fun k : Nat => ⟨[(0, .l2 a), (3, .ref 0 []), (4, .int k)], [(0, .t2 ((List.range k).map fun k => (List.range a.length).map fun i => e2 a i k))]⟩) (fun k => k ≤ (a.getD 0 []).length) (fun k => (a.getD 0 []).length - k) 0 (Nat.zero_le _) (by
    refine And.intro ?_ rfl
    simp only [SlotsLe, St.get, slotGet, Nat.reduceEqDiff, ↓reduceIte, true_and, and_true, AV.int.injEq]
    rfl) (fun k hk => ?_)
  have hl : ((List.range k).map fun k => (List.range a.length).map fun i => e2 a i k).length = k := by simp
  repeat refine ats_seq ?_
  refine ats_go (by first | exact fix0 hcx | exact fix1 hcx rfl) fun K hK => ?_
  simp only [go_sem, Nat.reduceLT, Nat.reduceBNe, Nat.reduceBEq, Nat.reduceEqDiff, Nat.reduceAdd, Nat.reduceSub, Nat.reduceLeDiff, Int.reduceLE, Int.reduceLT, Int.reduceToNat, Int.reduceNeg, Int.reduceEq, ↓reduceIte, reduceCtorEq]
  repeat refine And.intro (by first | omega | (intro hq; first | omega | (simp only [decide_eq_false_iff_not, decide_eq_true_eq, Bool.not_eq_false', Bool.not_eq_true'] at hq; omega))) ?_
  refine hK _ ?_
  clear hK K
  repeat refine ats_seq ?_
  first | refine ats_ifn (p := _) rfl trivial (fun hlk => ?_) (fun hlk => ?_) | refine ats_ifp (p := _) rfl trivial (fun hlk => ?_) (fun hlk => ?_) | refine ats_cond rfl trivial (fun hlk => ?_) (fun hlk => ?_)
  · refine ats_skip ?_
    repeat refine ats_seq ?_
    refine ats_block ?_
    repeat refine ats_seq ?_
    refine ats_go (by first | exact fix0 hcx | exact fix1 hcx rfl) fun K hK => ?_
    simp only [go_sem, Nat.reduceLT, Nat.reduceBNe, Nat.reduceBEq, Nat.reduceEqDiff, Nat.reduceAdd, Nat.reduceSub, Nat.reduceLeDiff, Int.reduceLE, Int.reduceLT, Int.reduceToNat, Int.reduceNeg, Int.reduceEq, ↓reduceIte, reduceCtorEq]
    refine hK _ ?_
    clear hK K
    repeat refine ats_seq ?_
    refine ats_go (by first | exact fix0 hcx | exact fix1 hcx rfl) fun K hK => ?_
    simp only [go_sem, Nat.reduceLT, Nat.reduceBNe, Nat.reduceBEq, Nat.reduceEqDiff, Nat.reduceAdd, Nat.reduceSub, Nat.reduceLeDiff, Int.reduceLE, Int.reduceLT, Int.reduceToNat, Int.reduceNeg, Int.reduceEq, ↓reduceIte, reduceCtorEq]
    refine hK _ ?_
    clear hK K
    repeat refine ats_seq ?_
    refine ats_loop (fun i : Nat => ⟨[(0, .l2 a), (3, .ref 0 []), (4, .int k), (5, .ref 1 []), (6, .int i)], [(0, .t2 ((List.range k).map fun k => (List.range a.length).map fun i => e2 a i k)), (1, .t1 ((List.range i).map fun i => e2 a i k))]⟩) (fun i => i ≤ a.length) (fun i => a.length - i) 0 (Nat.zero_le _) (by
      refine And.intro ?_ rfl
      simp only [SlotsLe, St.get, slotGet, Nat.reduceEqDiff, ↓reduceIte, true_and, and_true, AV.int.injEq]
      rfl) (fun i hi => ?_)
    have hl2 : ((List.range i).map fun i => e2 a i k).length = i := by simp
    repeat refine ats_seq ?_
    refine ats_go (by first | exact fix0 hcx | exact fix1 hcx rfl) fun K hK => ?_
    simp only [go_sem, Nat.reduceLT, Nat.reduceBNe, Nat.reduceBEq, Nat.reduceEqDiff, Nat.reduceAdd, Nat.reduceSub, Nat.reduceLeDiff, Int.reduceLE, Int.reduceLT, Int.reduceToNat, Int.reduceNeg, Int.reduceEq, ↓reduceIte, reduceCtorEq]
    refine hK _ ?_
    clear hK K
    repeat refine ats_seq ?_
    first | refine ats_ifn (p := _) rfl trivial (fun hli => ?_) (fun hli => ?_) | refine ats_ifp (p := _) rfl trivial (fun hli => ?_) (fun hli => ?_) | refine ats_cond rfl trivial (fun hli => ?_) (fun hli => ?_)
    · have hri := hr i (by omega)
      refine ats_skip ?_
      repeat refine ats_seq ?_
      refine ats_block ?_
      repeat refine ats_seq ?_
      refine ats_go (by first | exact fix0 hcx | exact fix1 hcx rfl) fun K hK => ?_
      simp only [go_sem, Nat.reduceLT, Nat.reduceBNe, Nat.reduceBEq, Nat.reduceEqDiff, Nat.reduceAdd, Nat.reduceSub, Nat.reduceLeDiff, Int.reduceLE, Int.reduceLT, Int.reduceToNat, Int.reduceNeg, Int.reduceEq, ↓reduceIte, reduceCtorEq]
      repeat refine And.intro (by (first | omega | (rw [hl2]; omega))) ?_
      refine hK _ ?_
      clear hK K
      repeat refine ats_seq ?_
      refine ats_go (by first | exact fix0 hcx | exact fix1 hcx rfl) fun K hK => ?_
      simp only [go_sem, Nat.reduceLT, Nat.reduceBNe, Nat.reduceBEq, Nat.reduceEqDiff, Nat.reduceAdd, Nat.reduceSub, Nat.reduceLeDiff, Int.reduceLE, Int.reduceLT, Int.reduceToNat, Int.reduceNeg, Int.reduceEq, ↓reduceIte, reduceCtorEq]
      repeat refine And.intro (by first | omega | (intro hq; first | omega | (simp only [decide_eq_false_iff_not, decide_eq_true_eq, Bool.not_eq_false', Bool.not_eq_true'] at hq; omega))) ?_
      refine hK _ ?_
      clear hK K
      refine ⟨i + 1, by omega, by omega, .inr ⟨[2], by simp only [killL, List.map_cons, List.map_nil, killA, killAs, qOf, rmT, killH, killT, List.filter_cons, List.filter_nil, List.contains_cons, List.contains_nil, SlotsLe, St.get, slotGet, Nat.reduceEqDiff, Nat.reduceBEq, Bool.or_false, Bool.or_true, Bool.false_and, Bool.not_true, Bool.not_false, Bool.false_eq_true, ↓reduceIte, if_true, if_false, AV.int.injEq, AV.bool.injEq, AV.l1.injEq, AV.l2.injEq, AV.l3.injEq, true_and, and_true]; omega, by simp only [killL, List.map_cons, List.map_nil, killA, killAs, qOf, rmT, killH, killT, List.filter_cons, List.filter_nil, List.contains_cons, List.contains_nil, SlotsLe, St.get, slotGet, Nat.reduceEqDiff, Nat.reduceBEq, Bool.or_false, Bool.or_true, Bool.false_and, Bool.not_true, Bool.not_false, Bool.false_eq_true, ↓reduceIte, if_true, if_false, AV.int.injEq, AV.bool.injEq, AV.l1.injEq, AV.l2.injEq, AV.l3.injEq, true_and, and_true]; simp only [List.range_succ, List.map_append, List.map_cons, List.map_nil]⟩⟩
    · obtain rfl : i = a.length := by omega
      refine ats_exit (lq_x ?_)
      repeat refine ats_seq ?_
      refine ats_go (by first | exact fix0 hcx | exact fix1 hcx rfl) fun K hK => ?_
      simp only [go_sem, Nat.reduceLT, Nat.reduceBNe, Nat.reduceBEq, Nat.reduceEqDiff, Nat.reduceAdd, Nat.reduceSub, Nat.reduceLeDiff, Int.reduceLE, Int.reduceLT, Int.reduceToNat, Int.reduceNeg, Int.reduceEq, ↓reduceIte, reduceCtorEq]
      repeat refine And.intro (by (first | omega | (rw [hl]; omega))) ?_
      refine hK _ ?_
      clear hK K
      repeat refine ats_seq ?_
      refine ats_go (by first | exact fix0 hcx | exact fix1 hcx rfl) fun K hK => ?_
      simp only [go_sem, Nat.reduceLT, Nat.reduceBNe, Nat.reduceBEq, Nat.reduceEqDiff, Nat.reduceAdd, Nat.reduceSub, Nat.reduceLeDiff, Int.reduceLE, Int.reduceLT, Int.reduceToNat, Int.reduceNeg, Int.reduceEq, ↓reduceIte, reduceCtorEq]
      repeat refine And.intro (by first | omega | (intro hq; first | omega | (simp only [decide_eq_false_iff_not, decide_eq_true_eq, Bool.not_eq_false', Bool.not_eq_true'] at hq; omega))) ?_
      refine hK _ ?_
      clear hK K
      refine ⟨k + 1,  by omega, by omega, .inl ⟨by simp only [SlotsLe, St.get, slotGet, Nat.reduceEqDiff, ↓reduceIte, AV.int.injEq, AV.bool.injEq, AV.l1.injEq, AV.l2.injEq, AV.l3.injEq, true_and, and_true]; omega,  by simp only [List.range_succ (n := k), List.map_append, List.map_cons, List.map_nil]⟩⟩
  · obtain rfl : k = (a.getD 0 []).length := by omega
    refine ats_exit (lq_x ?_)
    repeat refine ats_seq ?_
    refine ats_go (by first | exact fix0 hcx | exact fix1 hcx rfl) fun K hK => ?_
    simp only [go_sem, Nat.reduceLT, Nat.reduceBNe, Nat.reduceBEq, Nat.reduceEqDiff, Nat.reduceAdd, Nat.reduceSub, Nat.reduceLeDiff, Int.reduceLE, Int.reduceLT, Int.reduceToNat, Int.reduceNeg, Int.reduceEq, ↓reduceIte, reduceCtorEq]
    refine hK _ ?_
    clear hK K
    exact ats_ret (finV rfl ⟨rfl, trivial⟩ rfl)
end Go.Proofs.Ytomfedhhfcelkaa
