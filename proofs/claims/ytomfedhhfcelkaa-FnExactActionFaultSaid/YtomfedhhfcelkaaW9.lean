import Derived.Test.YtomfedhhfcelkaaW8
set_option linter.unusedSimpArgs false
set_option linter.unusedVariables false
namespace Go.Proofs.Ytomfedhhfcelkaa
open Go Go.Aw Go.Pl

theorem l03Dual_ok (t : List (List (List Int))) (hc : Cube t) (i : Nat) (hi : i < t.length) : PureCall Try.prog 149 [.l3 t, .int i] (.int (dual t i)) := by
  have hm := hc.mat hi
  have h16 := hc.2.1
  have h1 := hc.1
  refine PureCall.intro (n := 41) (rs := [.tmp 4]) Try.call149 Try.func149 rfl rfl rfl (by simp only [List.length_cons, List.length_nil]; omega) (fun cx hcx => ats_of ?_)
  simp only [argSlots, Nat.zero_add, Nat.reduceAdd]
  repeat refine ats_seq ?_
  refine ats_go (by first | exact fix0 hcx | exact fix1 hcx rfl) fun K hK => ?_
  simp only [go_sem, Nat.reduceLT, Nat.reduceBNe, Nat.reduceBEq, Nat.reduceEqDiff, Nat.reduceAdd, Nat.reduceSub, Nat.reduceLeDiff, Int.reduceLE, Int.reduceLT, Int.reduceToNat, Int.reduceNeg, Int.reduceEq, ↓reduceIte, reduceCtorEq]
  refine hK _ ?_
  clear hK K
  repeat refine ats_seq ?_
  refine ats_go (by first | exact fix0 hcx | exact fix1 hcx rfl) fun K hK => ?_
  simp only [go_sem, Nat.reduceLT, Nat.reduceBNe, Nat.reduceBEq, Nat.reduceEqDiff, Nat.reduceAdd, Nat.reduceSub, Nat.reduceLeDiff, Int.reduceLE, Int.reduceLT, Int.reduceToNat, Int.reduceNeg, Int.reduceEq, ↓reduceIte, reduceCtorEq]
  refine hK _ ?_
  clear hK K
  repeat refine ats_seq ?_
  refine ats_go (by first | exact fix0 hcx | exact fix1 hcx rfl) fun K hK => ?_
  simp only [go_sem, Nat.reduceLT, Nat.reduceBNe, Nat.reduceBEq, Nat.reduceEqDiff, Nat.reduceAdd, Nat.reduceSub, Nat.reduceLeDiff, Int.reduceLE, Int.reduceLT, Int.reduceToNat, Int.reduceNeg, Int.reduceEq, ↓reduceIte, reduceCtorEq]
  refine hK _ ?_
  clear hK K
  repeat refine ats_seq ?_
  refine ats_loop (fun p : Nat × Int => ⟨[(0, .l3 t), (1, .int i), (5, .int p.2), (6, .int p.1)], []⟩) (fun p => p.1 ≤ t.length ∧ dualG (fun j => e3 t i j 0) ((List.range t.length).drop p.1) p.2 = dual t i) (fun p => t.length - p.1) (0, -1) ⟨Nat.zero_le _, rfl⟩ (by
    refine And.intro ?_ rfl
    simp only [SlotsLe, St.get, slotGet, Nat.reduceEqDiff, ↓reduceIte, AV.int.injEq, AV.bool.injEq, AV.l1.injEq, AV.l2.injEq, AV.l3.injEq, true_and, and_true]
    rfl) (fun p hp => ?_)
  obtain ⟨k, out⟩ := p
  obtain ⟨hk, he⟩ := hp
  simp only [e3] at hk he
  repeat refine ats_seq ?_
  refine ats_go (by first | exact fix0 hcx | exact fix1 hcx rfl) fun K hK => ?_
  simp only [go_sem, Nat.reduceLT, Nat.reduceBNe, Nat.reduceBEq, Nat.reduceEqDiff, Nat.reduceAdd, Nat.reduceSub, Nat.reduceLeDiff, Int.reduceLE, Int.reduceLT, Int.reduceToNat, Int.reduceNeg, Int.reduceEq, ↓reduceIte, reduceCtorEq]
  refine hK _ ?_
  clear hK K
  repeat refine ats_seq ?_
  first | refine ats_ifn (p := _) rfl trivial (fun hlt => ?_) (fun hlt => ?_) | refine ats_ifp (p := _) rfl trivial (fun hlt => ?_) (fun hlt => ?_) | refine ats_cond rfl trivial (fun hlt => ?_) (fun hlt => ?_)
  · have hr := hc.row hi (show k < t.length by omega)
    rw [range_drop (show k < t.length by omega)] at he
    simp only [dualG, e3] at he
    refine ats_skip ?_
    repeat refine ats_seq ?_
    refine ats_block ?_
    repeat refine ats_seq ?_
    refine ats_block ?_
    repeat refine ats_seq ?_
    refine ats_go (by first | exact fix0 hcx | exact fix1 hcx rfl) fun K hK => ?_
    simp only [go_sem, Nat.reduceLT, Nat.reduceBNe, Nat.reduceBEq, Nat.reduceEqDiff, Nat.reduceAdd, Nat.reduceSub, Nat.reduceLeDiff, Int.reduceLE, Int.reduceLT, Int.reduceToNat, Int.reduceNeg, Int.reduceEq, ↓reduceIte, reduceCtorEq]
    repeat refine And.intro (by first | omega | (intro hq; first | omega | (simp only [decide_eq_false_iff_not, decide_eq_true_eq, Bool.not_eq_false', Bool.not_eq_true'] at hq; omega))) ?_
    refine hK _ ?_
    clear hK K
    repeat refine ats_seq ?_
    first | refine ats_ifn (p := _) rfl trivial (fun h2 => ?_) (fun h2 => ?_) | refine ats_ifp (p := _) rfl trivial (fun h2 => ?_) (fun h2 => ?_) | refine ats_cond rfl trivial (fun h2 => ?_) (fun h2 => ?_)
    · simp only [Bool.or_eq_true, Bool.or_eq_false_iff, Bool.and_eq_true, Bool.and_eq_false_iff, decide_eq_true_eq, decide_eq_false_iff_not, Bool.not_eq_true', Bool.not_eq_false'] at h2
      repeat refine ats_seq ?_
      refine ats_go (by first | exact fix0 hcx | exact fix1 hcx rfl) fun K hK => ?_
      simp only [go_sem, Nat.reduceLT, Nat.reduceBNe, Nat.reduceBEq, Nat.reduceEqDiff, Nat.reduceAdd, Nat.reduceSub, Nat.reduceLeDiff, Int.reduceLE, Int.reduceLT, Int.reduceToNat, Int.reduceNeg, Int.reduceEq, ↓reduceIte, reduceCtorEq]
      refine hK _ ?_
      clear hK K
      repeat refine ats_seq ?_
      refine ats_go (by first | exact fix0 hcx | exact fix1 hcx rfl) fun K hK => ?_
      simp only [go_sem, Nat.reduceLT, Nat.reduceBNe, Nat.reduceBEq, Nat.reduceEqDiff, Nat.reduceAdd, Nat.reduceSub, Nat.reduceLeDiff, Int.reduceLE, Int.reduceLT, Int.reduceToNat, Int.reduceNeg, Int.reduceEq, ↓reduceIte, reduceCtorEq]
      repeat refine And.intro (by first | omega | (intro hq; first | omega | (simp only [decide_eq_false_iff_not, decide_eq_true_eq, Bool.not_eq_false', Bool.not_eq_true'] at hq; omega))) ?_
      refine hK _ ?_
      clear hK K
      rw [if_neg (by rw [h2.1]; decide), if_pos ⟨h2.2, h2.1⟩] at he
      refine ⟨(k + 1, (k : Int)),  ⟨by simp only; omega, he⟩, by omega, .inl ⟨?_, rfl⟩⟩
      simp only [SlotsLe, St.get, slotGet, Nat.reduceEqDiff, ↓reduceIte, AV.int.injEq, AV.bool.injEq, AV.l1.injEq, AV.l2.injEq, AV.l3.injEq, true_and, and_true]
      omega
    · repeat refine ats_seq ?_
      refine ats_go (by first | exact fix0 hcx | exact fix1 hcx rfl) fun K hK => ?_
      simp only [go_sem, Nat.reduceLT, Nat.reduceBNe, Nat.reduceBEq, Nat.reduceEqDiff, Nat.reduceAdd, Nat.reduceSub, Nat.reduceLeDiff, Int.reduceLE, Int.reduceLT, Int.reduceToNat, Int.reduceNeg, Int.reduceEq, ↓reduceIte, reduceCtorEq]
      repeat refine And.intro (by first | omega | (intro hq; first | omega | (simp only [decide_eq_false_iff_not, decide_eq_true_eq, Bool.not_eq_false', Bool.not_eq_true'] at hq; omega))) ?_
      refine hK _ ?_
      clear hK K
      repeat refine ats_seq ?_
      first | refine ats_ifn (p := _) rfl trivial (fun h3 => ?_) (fun h3 => ?_) | refine ats_ifp (p := _) rfl trivial (fun h3 => ?_) (fun h3 => ?_) | refine ats_cond rfl trivial (fun h3 => ?_) (fun h3 => ?_)
      · repeat refine ats_seq ?_
        refine ats_go (by first | exact fix0 hcx | exact fix1 hcx rfl) fun K hK => ?_
        simp only [go_sem, Nat.reduceLT, Nat.reduceBNe, Nat.reduceBEq, Nat.reduceEqDiff, Nat.reduceAdd, Nat.reduceSub, Nat.reduceLeDiff, Int.reduceLE, Int.reduceLT, Int.reduceToNat, Int.reduceNeg, Int.reduceEq, ↓reduceIte, reduceCtorEq]
        refine hK _ ?_
        clear hK K
        refine ats_ret (finI rfl ?_)
        rw [if_neg h3, if_neg (fun h4 => by
          simp only [h4.1, h4.2, decide_true, Bool.and_true] at h2; cases h2)] at he
        exact he
      · refine ats_skip ?_
        repeat refine ats_seq ?_
        refine ats_go (by first | exact fix0 hcx | exact fix1 hcx rfl) fun K hK => ?_
        simp only [go_sem, Nat.reduceLT, Nat.reduceBNe, Nat.reduceBEq, Nat.reduceEqDiff, Nat.reduceAdd, Nat.reduceSub, Nat.reduceLeDiff, Int.reduceLE, Int.reduceLT, Int.reduceToNat, Int.reduceNeg, Int.reduceEq, ↓reduceIte, reduceCtorEq]
        repeat refine And.intro (by first | omega | (intro hq; first | omega | (simp only [decide_eq_false_iff_not, decide_eq_true_eq, Bool.not_eq_false', Bool.not_eq_true'] at hq; omega))) ?_
        refine hK _ ?_
        clear hK K
        rw [if_pos h3] at he
        refine ⟨(k + 1, out),  ⟨by simp only; omega, he⟩, by omega, .inl ⟨?_, rfl⟩⟩
        simp only [SlotsLe, St.get, slotGet, Nat.reduceEqDiff, ↓reduceIte, AV.int.injEq, AV.bool.injEq, AV.l1.injEq, AV.l2.injEq, AV.l3.injEq, true_and, and_true]
        omega
  · rw [range_done (by omega)] at he
    refine ats_exit (lq_x ?_)
    repeat refine ats_seq ?_
    refine ats_go (by first | exact fix0 hcx | exact fix1 hcx rfl) fun K hK => ?_
    simp only [go_sem, Nat.reduceLT, Nat.reduceBNe, Nat.reduceBEq, Nat.reduceEqDiff, Nat.reduceAdd, Nat.reduceSub, Nat.reduceLeDiff, Int.reduceLE, Int.reduceLT, Int.reduceToNat, Int.reduceNeg, Int.reduceEq, ↓reduceIte, reduceCtorEq]
    refine hK _ ?_
    clear hK K
    refine ats_ret (finI rfl ?_)
    exact he

theorem onlyOf_ok (t : List (List (List Int))) (hc : Cube t) (i : Nat) (hi : i < t.length) : PureCall Try.prog 150 [.agg [.l3 t], .int i] (.int (dual t i)) := by
  have hm := hc.mat hi
  have h16 := hc.2.1
  have h1 := hc.1
  refine PureCall.intro (n := 34) (rs := [.tmp 4]) Try.call150 Try.func150 rfl rfl rfl (by simp only [List.length_cons, List.length_nil]; omega) (fun cx hcx => ats_of ?_)
  simp only [argSlots, Nat.zero_add, Nat.reduceAdd]
  repeat refine ats_seq ?_
  refine ats_go (by first | exact fix0 hcx | exact fix1 hcx rfl) fun K hK => ?_
  simp only [go_sem, Nat.reduceLT, Nat.reduceBNe, Nat.reduceBEq, Nat.reduceEqDiff, Nat.reduceAdd, Nat.reduceSub, Nat.reduceLeDiff, Int.reduceLE, Int.reduceLT, Int.reduceToNat, Int.reduceNeg, Int.reduceEq, ↓reduceIte, reduceCtorEq]
  refine hK _ ?_
  clear hK K
  repeat refine ats_seq ?_
  refine ats_go (by first | exact fix0 hcx | exact fix1 hcx rfl) fun K hK => ?_
  simp only [go_sem, Nat.reduceLT, Nat.reduceBNe, Nat.reduceBEq, Nat.reduceEqDiff, Nat.reduceAdd, Nat.reduceSub, Nat.reduceLeDiff, Int.reduceLE, Int.reduceLT, Int.reduceToNat, Int.reduceNeg, Int.reduceEq, ↓reduceIte, reduceCtorEq]
  refine hK _ ?_
  clear hK K
  repeat refine ats_seq ?_
  refine ats_go (by first | exact fix0 hcx | exact fix1 hcx rfl) fun K hK => ?_
  simp only [go_sem, Nat.reduceLT, Nat.reduceBNe, Nat.reduceBEq, Nat.reduceEqDiff, Nat.reduceAdd, Nat.reduceSub, Nat.reduceLeDiff, Int.reduceLE, Int.reduceLT, Int.reduceToNat, Int.reduceNeg, Int.reduceEq, ↓reduceIte, reduceCtorEq]
  repeat refine And.intro (by first | omega | (intro hq; first | omega | (simp only [decide_eq_false_iff_not, decide_eq_true_eq, Bool.not_eq_false', Bool.not_eq_true'] at hq; omega))) ?_
  refine hK _ ?_
  clear hK K
  repeat refine ats_seq ?_
  refine ats_loop (fun p : Nat × Int => ⟨[(0, .agg [.l3 t]), (2, .bptr 0 0), (5, .int p.2), (12, .l2 (t.getD i [])), (13, .int (t.getD i []).length), (14, .int p.1)], [(0, .bx [.l3 t])]⟩) (fun p => p.1 ≤ t.length ∧ dualG (fun j => e3 t i j 0) ((List.range t.length).drop p.1) p.2 = dual t i) (fun p => t.length - p.1) (0, -1) ⟨Nat.zero_le _, rfl⟩ (by
    refine And.intro ?_ rfl
    simp only [SlotsLe, St.get, slotGet, Nat.reduceEqDiff, ↓reduceIte, AV.int.injEq, AV.bool.injEq, AV.l1.injEq, AV.l2.injEq, AV.l3.injEq, true_and, and_true]
    rfl) (fun p hp => ?_)
  obtain ⟨k, out⟩ := p
  obtain ⟨hk, he⟩ := hp
  simp only [e3] at hk he
  repeat refine ats_seq ?_
  refine ats_go (by first | exact fix0 hcx | exact fix1 hcx rfl) fun K hK => ?_
  simp only [go_sem, Nat.reduceLT, Nat.reduceBNe, Nat.reduceBEq, Nat.reduceEqDiff, Nat.reduceAdd, Nat.reduceSub, Nat.reduceLeDiff, Int.reduceLE, Int.reduceLT, Int.reduceToNat, Int.reduceNeg, Int.reduceEq, ↓reduceIte, reduceCtorEq]
  refine hK _ ?_
  clear hK K
  repeat refine ats_seq ?_
  first | refine ats_ifn (p := _) rfl trivial (fun hlt => ?_) (fun hlt => ?_) | refine ats_ifp (p := _) rfl trivial (fun hlt => ?_) (fun hlt => ?_) | refine ats_cond rfl trivial (fun hlt => ?_) (fun hlt => ?_)
  · have hr := hc.row hi (show k < t.length by omega)
    rw [range_drop (show k < t.length by omega)] at he
    simp only [dualG, e3] at he
    refine ats_skip ?_
    repeat refine ats_seq ?_
    refine ats_block ?_
    repeat refine ats_seq ?_
    refine ats_go (by first | exact fix0 hcx | exact fix1 hcx rfl) fun K hK => ?_
    simp only [go_sem, Nat.reduceLT, Nat.reduceBNe, Nat.reduceBEq, Nat.reduceEqDiff, Nat.reduceAdd, Nat.reduceSub, Nat.reduceLeDiff, Int.reduceLE, Int.reduceLT, Int.reduceToNat, Int.reduceNeg, Int.reduceEq, ↓reduceIte, reduceCtorEq]
    repeat refine And.intro (by first | omega | (intro hq; first | omega | (simp only [decide_eq_false_iff_not, decide_eq_true_eq, Bool.not_eq_false', Bool.not_eq_true'] at hq; omega))) ?_
    refine hK _ ?_
    clear hK K
    repeat refine ats_seq ?_
    refine ats_go (by first | exact fix0 hcx | exact fix1 hcx rfl) fun K hK => ?_
    simp only [go_sem, Nat.reduceLT, Nat.reduceBNe, Nat.reduceBEq, Nat.reduceEqDiff, Nat.reduceAdd, Nat.reduceSub, Nat.reduceLeDiff, Int.reduceLE, Int.reduceLT, Int.reduceToNat, Int.reduceNeg, Int.reduceEq, ↓reduceIte, reduceCtorEq]
    repeat refine And.intro (by first | omega | (intro hq; first | omega | (simp only [decide_eq_false_iff_not, decide_eq_true_eq, Bool.not_eq_false', Bool.not_eq_true'] at hq; omega))) ?_
    refine hK _ ?_
    clear hK K
    repeat refine ats_seq ?_
    first | refine ats_ifn (p := _) rfl trivial (fun h2 => ?_) (fun h2 => ?_) | refine ats_ifp (p := _) rfl trivial (fun h2 => ?_) (fun h2 => ?_) | refine ats_cond rfl trivial (fun h2 => ?_) (fun h2 => ?_)
    · rw [if_pos h2] at he
      refine ats_exit (bq_x ?_)
      repeat refine ats_seq ?_
      refine ats_go (by first | exact fix0 hcx | exact fix1 hcx rfl) fun K hK => ?_
      simp only [go_sem, Nat.reduceLT, Nat.reduceBNe, Nat.reduceBEq, Nat.reduceEqDiff, Nat.reduceAdd, Nat.reduceSub, Nat.reduceLeDiff, Int.reduceLE, Int.reduceLT, Int.reduceToNat, Int.reduceNeg, Int.reduceEq, ↓reduceIte, reduceCtorEq]
      repeat refine And.intro (by first | omega | (intro hq; first | omega | (simp only [decide_eq_false_iff_not, decide_eq_true_eq, Bool.not_eq_false', Bool.not_eq_true'] at hq; omega))) ?_
      refine hK _ ?_
      clear hK K
      refine ⟨(k + 1, out),  ⟨by simp only; omega, he⟩, by omega, .inl ⟨?_, rfl⟩⟩
      simp only [SlotsLe, St.get, slotGet, Nat.reduceEqDiff, ↓reduceIte, AV.int.injEq, AV.bool.injEq, AV.l1.injEq, AV.l2.injEq, AV.l3.injEq, true_and, and_true]
      omega
    · rw [if_neg h2] at he
      refine ats_skip ?_
      repeat refine ats_seq ?_
      refine ats_go (by first | exact fix0 hcx | exact fix1 hcx rfl) fun K hK => ?_
      simp only [go_sem, Nat.reduceLT, Nat.reduceBNe, Nat.reduceBEq, Nat.reduceEqDiff, Nat.reduceAdd, Nat.reduceSub, Nat.reduceLeDiff, Int.reduceLE, Int.reduceLT, Int.reduceToNat, Int.reduceNeg, Int.reduceEq, ↓reduceIte, reduceCtorEq]
      repeat refine And.intro (by first | omega | (intro hq; first | omega | (simp only [decide_eq_false_iff_not, decide_eq_true_eq, Bool.not_eq_false', Bool.not_eq_true'] at hq; omega))) ?_
      refine hK _ ?_
      clear hK K
      repeat refine ats_seq ?_
      first | refine ats_ifn (p := _) rfl trivial (fun h3 => ?_) (fun h3 => ?_) | refine ats_ifp (p := _) rfl trivial (fun h3 => ?_) (fun h3 => ?_) | refine ats_cond rfl trivial (fun h3 => ?_) (fun h3 => ?_)
      · repeat refine ats_seq ?_
        refine ats_go (by first | exact fix0 hcx | exact fix1 hcx rfl) fun K hK => ?_
        simp only [go_sem, Nat.reduceLT, Nat.reduceBNe, Nat.reduceBEq, Nat.reduceEqDiff, Nat.reduceAdd, Nat.reduceSub, Nat.reduceLeDiff, Int.reduceLE, Int.reduceLT, Int.reduceToNat, Int.reduceNeg, Int.reduceEq, ↓reduceIte, reduceCtorEq]
        refine hK _ ?_
        clear hK K
        refine ats_ret (finI rfl ?_)
        rw [if_neg (fun h4 => by
          simp only [Bool.or_eq_true, decide_eq_true_eq, Bool.not_eq_true', decide_eq_false_iff_not] at h3
          rcases h3 with h3 | h3
          · omega
          · exact h3 h4.2)] at he
        exact he
      · simp only [Bool.or_eq_false_iff, decide_eq_false_iff_not, Bool.not_eq_false', decide_eq_true_eq] at h3
        refine ats_skip ?_
        repeat refine ats_seq ?_
        refine ats_go (by first | exact fix0 hcx | exact fix1 hcx rfl) fun K hK => ?_
        simp only [go_sem, Nat.reduceLT, Nat.reduceBNe, Nat.reduceBEq, Nat.reduceEqDiff, Nat.reduceAdd, Nat.reduceSub, Nat.reduceLeDiff, Int.reduceLE, Int.reduceLT, Int.reduceToNat, Int.reduceNeg, Int.reduceEq, ↓reduceIte, reduceCtorEq]
        refine hK _ ?_
        clear hK K
        repeat refine ats_seq ?_
        refine ats_go (by first | exact fix0 hcx | exact fix1 hcx rfl) fun K hK => ?_
        simp only [go_sem, Nat.reduceLT, Nat.reduceBNe, Nat.reduceBEq, Nat.reduceEqDiff, Nat.reduceAdd, Nat.reduceSub, Nat.reduceLeDiff, Int.reduceLE, Int.reduceLT, Int.reduceToNat, Int.reduceNeg, Int.reduceEq, ↓reduceIte, reduceCtorEq]
        repeat refine And.intro (by first | omega | (intro hq; first | omega | (simp only [decide_eq_false_iff_not, decide_eq_true_eq, Bool.not_eq_false', Bool.not_eq_true'] at hq; omega))) ?_
        refine hK _ ?_
        clear hK K
        rw [if_pos ⟨by omega, h3.2⟩] at he
        refine ⟨(k + 1, (k : Int)),  ⟨by simp only; omega, he⟩, by omega, .inl ⟨?_, rfl⟩⟩
        simp only [SlotsLe, St.get, slotGet, Nat.reduceEqDiff, ↓reduceIte, AV.int.injEq, AV.bool.injEq, AV.l1.injEq, AV.l2.injEq, AV.l3.injEq, true_and, and_true]
        omega
  · rw [range_done (by omega)] at he
    refine ats_exit (lq_x ?_)
    repeat refine ats_seq ?_
    refine ats_go (by first | exact fix0 hcx | exact fix1 hcx rfl) fun K hK => ?_
    simp only [go_sem, Nat.reduceLT, Nat.reduceBNe, Nat.reduceBEq, Nat.reduceEqDiff, Nat.reduceAdd, Nat.reduceSub, Nat.reduceLeDiff, Int.reduceLE, Int.reduceLT, Int.reduceToNat, Int.reduceNeg, Int.reduceEq, ↓reduceIte, reduceCtorEq]
    refine hK _ ?_
    clear hK K
    refine ats_ret (finI rfl ?_)
    exact he
end Go.Proofs.Ytomfedhhfcelkaa
