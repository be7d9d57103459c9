import Derived.Test.YtomfedhhfcelkaaW9
import Derived.Test.YtomfedhhfcelkaaPlC
set_option linter.unusedSimpArgs false
set_option linter.unusedVariables false
namespace Go.Proofs.Ytomfedhhfcelkaa
open Go Go.Aw Go.Pl

theorem delta_ok (i k : Nat) : PureCall Try.prog 177 [.int i, .int k] (.int (dl i k)) := by
  refine PureCall.intro (n := 8) (rs := [.tmp 4]) Try.call177 Try.func177 rfl rfl rfl (by simp only [List.length_cons, List.length_nil]; omega) (fun cx hcx => ats_of ?_)
  simp only [argSlots, Nat.zero_add, Nat.reduceAdd]
  repeat refine ats_seq ?_
  refine ats_go (by first | exact fix0 hcx | exact fix1 hcx rfl) fun K hK => ?_
  simp only [go_sem, Nat.reduceLT, Nat.reduceBNe, Nat.reduceBEq, Nat.reduceEqDiff, Nat.reduceAdd, Nat.reduceSub, Nat.reduceLeDiff, Int.reduceLE, Int.reduceLT, Int.reduceToNat, Int.reduceNeg, Int.reduceEq, ↓reduceIte, reduceCtorEq]
  refine hK _ ?_
  clear hK K
  repeat refine ats_seq ?_
  refine ats_go (by first | exact fix0 hcx | exact fix1 hcx rfl) fun K hK => ?_
  simp only [go_sem, Nat.reduceLT, Nat.reduceBNe, Nat.reduceBEq, Nat.reduceEqDiff, Nat.reduceAdd, Nat.reduceSub, Nat.reduceLeDiff, Int.reduceLE, Int.reduceLT, Int.reduceToNat, Int.reduceNeg, Int.reduceEq, ↓reduceIte, reduceCtorEq]
  refine hK _ ?_
  clear hK K
  repeat refine ats_seq ?_
  first | refine ats_ifn (p := _) rfl trivial (fun hc => ?_) (fun hc => ?_) | refine ats_ifp (p := _) rfl trivial (fun hc => ?_) (fun hc => ?_) | refine ats_cond rfl trivial (fun hc => ?_) (fun hc => ?_)
  · repeat refine ats_seq ?_
    refine ats_go (by first | exact fix0 hcx | exact fix1 hcx rfl) fun K hK => ?_
    simp only [go_sem, Nat.reduceLT, Nat.reduceBNe, Nat.reduceBEq, Nat.reduceEqDiff, Nat.reduceAdd, Nat.reduceSub, Nat.reduceLeDiff, Int.reduceLE, Int.reduceLT, Int.reduceToNat, Int.reduceNeg, Int.reduceEq, ↓reduceIte, reduceCtorEq]
    refine hK _ ?_
    clear hK K
    refine ats_ret (finI rfl ?_)
    simp only [dl, if_pos hc]
  · refine ats_skip ?_
    repeat refine ats_seq ?_
    refine ats_go (by first | exact fix0 hcx | exact fix1 hcx rfl) fun K hK => ?_
    simp only [go_sem, Nat.reduceLT, Nat.reduceBNe, Nat.reduceBEq, Nat.reduceEqDiff, Nat.reduceAdd, Nat.reduceSub, Nat.reduceLeDiff, Int.reduceLE, Int.reduceLT, Int.reduceToNat, Int.reduceNeg, Int.reduceEq, ↓reduceIte, reduceCtorEq]
    refine hK _ ?_
    clear hK K
    refine ats_ret (finI rfl ?_)
    simp only [dl, if_neg hc]

theorem unitFault_ok (t : List (List (List Int))) (hc : Cube t) : FreshCall Try.prog 145 [.agg [.l3 t]] (optA (unitF t)) := by
  have h16 := hc.2.1
  have h1 := hc.1
  refine FreshCall.intro (n := 52) (rs := [.tmp 2]) Try.call145 Try.func145 rfl rfl rfl (by simp only [List.length_cons, List.length_nil]; omega) (fun cx hcx => ats_of ?_)
  simp only [argSlots, Nat.zero_add, Nat.reduceAdd]
  repeat refine ats_seq ?_
  refine ats_go (by first | exact fix0 hcx | exact fix1 hcx rfl) fun K hK => ?_
  simp only [go_sem, Nat.reduceLT, Nat.reduceBNe, Nat.reduceBEq, Nat.reduceEqDiff, Nat.reduceAdd, Nat.reduceSub, Nat.reduceLeDiff, Int.reduceLE, Int.reduceLT, Int.reduceToNat, Int.reduceNeg, Int.reduceEq, ↓reduceIte, reduceCtorEq]
  refine hK _ ?_
  clear hK K
  repeat refine ats_seq ?_
  refine ats_go (by first | exact fix0 hcx | exact fix1 hcx rfl) fun K hK => ?_
  simp only [go_sem, Nat.reduceLT, Nat.reduceBNe, Nat.reduceBEq, Nat.reduceEqDiff, Nat.reduceAdd, Nat.reduceSub, Nat.reduceLeDiff, Int.reduceLE, Int.reduceLT, Int.reduceToNat, Int.reduceNeg, Int.reduceEq, ↓reduceIte, reduceCtorEq]
  refine hK _ ?_
  clear hK K
  repeat refine ats_seq ?_
  refine ats_loop (fun i : Nat => ⟨[(1, .bptr 0 0), (7, .int t.length), (8, .int i)], [(0, .bx [.l3 t])]⟩) (fun i => i ≤ t.length ∧ ∀ b, b < i → first t.length (unitG t b) = none) (fun i => t.length - i) 0 ⟨Nat.zero_le _, fun a h => absurd h (Nat.not_lt_zero a)⟩ (by refine And.intro ?_ rfl; simp only [SlotsLe, St.get, slotGet, Nat.reduceEqDiff, ↓reduceIte, AV.int.injEq, AV.bool.injEq, AV.l1.injEq, AV.l2.injEq, AV.l3.injEq, true_and, and_true]; rfl) (fun i hi => ?_)
  obtain ⟨hi, Hi⟩ := hi
  repeat refine ats_seq ?_
  refine ats_go (by first | exact fix0 hcx | exact fix1 hcx rfl) fun K hK => ?_
  simp only [go_sem, Nat.reduceLT, Nat.reduceBNe, Nat.reduceBEq, Nat.reduceEqDiff, Nat.reduceAdd, Nat.reduceSub, Nat.reduceLeDiff, Int.reduceLE, Int.reduceLT, Int.reduceToNat, Int.reduceNeg, Int.reduceEq, ↓reduceIte, reduceCtorEq]
  refine hK _ ?_
  clear hK K
  repeat refine ats_seq ?_
  first | refine ats_ifn (p := _) rfl trivial (fun hli => ?_) (fun hli => ?_) | refine ats_ifp (p := _) rfl trivial (fun hli => ?_) (fun hli => ?_) | refine ats_cond rfl trivial (fun hli => ?_) (fun hli => ?_)
  · refine ats_skip ?_
    repeat refine ats_seq ?_
    refine ats_block ?_
    repeat refine ats_seq ?_
    refine ats_go (by first | exact fix0 hcx | exact fix1 hcx rfl) fun K hK => ?_
    simp only [go_sem, Nat.reduceLT, Nat.reduceBNe, Nat.reduceBEq, Nat.reduceEqDiff, Nat.reduceAdd, Nat.reduceSub, Nat.reduceLeDiff, Int.reduceLE, Int.reduceLT, Int.reduceToNat, Int.reduceNeg, Int.reduceEq, ↓reduceIte, reduceCtorEq]
    refine hK _ ?_
    clear hK K
    repeat refine ats_seq ?_
    refine ats_go (by first | exact fix0 hcx | exact fix1 hcx rfl) fun K hK => ?_
    simp only [go_sem, Nat.reduceLT, Nat.reduceBNe, Nat.reduceBEq, Nat.reduceEqDiff, Nat.reduceAdd, Nat.reduceSub, Nat.reduceLeDiff, Int.reduceLE, Int.reduceLT, Int.reduceToNat, Int.reduceNeg, Int.reduceEq, ↓reduceIte, reduceCtorEq]
    refine hK _ ?_
    clear hK K
    repeat refine ats_seq ?_
    refine ats_loop (fun k : Nat => ⟨[(1, .bptr 0 0), (7, .int t.length), (8, .int i), (3, .int i), (13, .int t.length), (14, .int k)], [(0, .bx [.l3 t])]⟩) (fun k => k ≤ t.length ∧ ∀ b, b < k → unitG t i b = none) (fun k => t.length - k) 0 ⟨Nat.zero_le _, fun a h => absurd h (Nat.not_lt_zero a)⟩ (by refine And.intro ?_ rfl; simp only [SlotsLe, St.get, slotGet, Nat.reduceEqDiff, ↓reduceIte, AV.int.injEq, AV.bool.injEq, AV.l1.injEq, AV.l2.injEq, AV.l3.injEq, true_and, and_true]; rfl) (fun k hk => ?_)
    obtain ⟨hk, Hk⟩ := hk
    repeat refine ats_seq ?_
    refine ats_go (by first | exact fix0 hcx | exact fix1 hcx rfl) fun K hK => ?_
    simp only [go_sem, Nat.reduceLT, Nat.reduceBNe, Nat.reduceBEq, Nat.reduceEqDiff, Nat.reduceAdd, Nat.reduceSub, Nat.reduceLeDiff, Int.reduceLE, Int.reduceLT, Int.reduceToNat, Int.reduceNeg, Int.reduceEq, ↓reduceIte, reduceCtorEq]
    refine hK _ ?_
    clear hK K
    repeat refine ats_seq ?_
    first | refine ats_ifn (p := _) rfl trivial (fun hlk => ?_) (fun hlk => ?_) | refine ats_ifp (p := _) rfl trivial (fun hlk => ?_) (fun hlk => ?_) | refine ats_cond rfl trivial (fun hlk => ?_) (fun hlk => ?_)
    · have r1 := hc.row (i := 0) (j := i) (by omega) (by omega)
      have r2 := hc.row (i := i) (j := 0) (by omega) (by omega)
      have m1 := hc.mat (i := 0) (by omega)
      have m2 := hc.mat (i := i) (by omega)
      refine ats_skip ?_
      repeat refine ats_seq ?_
      refine ats_block ?_
      repeat refine ats_seq ?_
      refine ats_go (by first | exact fix0 hcx | exact fix1 hcx rfl) fun K hK => ?_
      simp only [go_sem, Nat.reduceLT, Nat.reduceBNe, Nat.reduceBEq, Nat.reduceEqDiff, Nat.reduceAdd, Nat.reduceSub, Nat.reduceLeDiff, Int.reduceLE, Int.reduceLT, Int.reduceToNat, Int.reduceNeg, Int.reduceEq, ↓reduceIte, reduceCtorEq]
      refine hK _ ?_
      clear hK K
      repeat refine ats_seq ?_
      refine ats_pick (fix0 hcx) mixed (by kernel_rfl) fun K hK => ?_
      simp only [go_sem, Nat.reduceLT, Nat.reduceBNe, Nat.reduceBEq, Nat.reduceEqDiff, Nat.reduceAdd, Nat.reduceSub, Nat.reduceLeDiff, Int.reduceLE, Int.reduceLT, Int.reduceToNat, Int.reduceNeg, Int.reduceEq, ↓reduceIte, reduceCtorEq]
      repeat refine And.intro (by first | omega | (intro hq; first | omega | (simp only [decide_eq_false_iff_not, decide_eq_true_eq, Bool.not_eq_false', Bool.not_eq_true'] at hq; omega))) ?_
      first | refine fcall_data (delta_ok i k) rfl ?_ | refine YR_intro (acall_data (delta_ok i k) rfl) ?_
      simp only [go_sem, Nat.reduceLT, Nat.reduceBNe, Nat.reduceBEq, Nat.reduceEqDiff, Nat.reduceAdd, Nat.reduceSub, Nat.reduceLeDiff, Int.reduceLE, Int.reduceLT, Int.reduceToNat, Int.reduceNeg, Int.reduceEq, ↓reduceIte, reduceCtorEq]
      repeat refine And.intro (by first | omega | (intro hq; first | omega | (simp only [decide_eq_false_iff_not, decide_eq_true_eq, Bool.not_eq_false', Bool.not_eq_true'] at hq; omega))) ?_
      first | refine YR_intro (fun _ => acall_data (delta_ok i k) rfl) ?_ | refine YR_intro (acall_data (delta_ok i k) rfl) ?_
      simp only [go_sem, Nat.reduceLT, Nat.reduceBNe, Nat.reduceBEq, Nat.reduceEqDiff, Nat.reduceAdd, Nat.reduceSub, Nat.reduceLeDiff, Int.reduceLE, Int.reduceLT, Int.reduceToNat, Int.reduceNeg, Int.reduceEq, ↓reduceIte, reduceCtorEq]
      refine hK _ ?_
      clear hK K
      repeat refine ats_seq ?_
      first | refine ats_ifn (p := _) rfl trivial (fun h2 => ?_) (fun h2 => ?_) | refine ats_ifp (p := _) rfl trivial (fun h2 => ?_) (fun h2 => ?_) | refine ats_cond rfl trivial (fun h2 => ?_) (fun h2 => ?_)
      · simp only [Bool.or_eq_true, Bool.not_eq_true', decide_eq_false_iff_not] at h2
        repeat refine ats_seq ?_
        refine ats_go (by first | exact fix0 hcx | exact fix1 hcx rfl) fun K hK => ?_
        simp only [go_sem, Nat.reduceLT, Nat.reduceBNe, Nat.reduceBEq, Nat.reduceEqDiff, Nat.reduceAdd, Nat.reduceSub, Nat.reduceLeDiff, Int.reduceLE, Int.reduceLT, Int.reduceToNat, Int.reduceNeg, Int.reduceEq, ↓reduceIte, reduceCtorEq]
        refine hK _ ?_
        clear hK K
        have e : unitF t = some [0, (i : Int), (k : Int)] := first_some (by omega) Hi (first_some (by omega) Hk (if_pos h2))
        exact ats_ret (ownV (is := [1]) rfl ⟨rfl, trivial⟩ (by rw [e]; rfl) (by simp))
      · simp only [Bool.or_eq_false_iff, Bool.not_eq_false', decide_eq_true_eq] at h2
        refine ats_skip ?_
        repeat refine ats_seq ?_
        refine ats_go (by first | exact fix0 hcx | exact fix1 hcx rfl) fun K hK => ?_
        simp only [go_sem, Nat.reduceLT, Nat.reduceBNe, Nat.reduceBEq, Nat.reduceEqDiff, Nat.reduceAdd, Nat.reduceSub, Nat.reduceLeDiff, Int.reduceLE, Int.reduceLT, Int.reduceToNat, Int.reduceNeg, Int.reduceEq, ↓reduceIte, reduceCtorEq]
        repeat refine And.intro (by first | omega | (intro hq; first | omega | (simp only [decide_eq_false_iff_not, decide_eq_true_eq, Bool.not_eq_false', Bool.not_eq_true'] at hq; omega))) ?_
        refine hK _ ?_
        clear hK K
        refine ⟨k + 1, ⟨by omega, fun a ha => by rcases Nat.lt_succ_iff_lt_or_eq.1 ha with h | rfl; exact Hk a h; exact if_neg (fun h => h.elim (fun h => h h2.1) (fun h => h h2.2))⟩, by omega, .inl ⟨?_, rfl⟩⟩
        simp only [SlotsLe, St.get, slotGet, Nat.reduceEqDiff, ↓reduceIte, AV.int.injEq, AV.bool.injEq, AV.l1.injEq, AV.l2.injEq, AV.l3.injEq, true_and, and_true]
        omega
    · refine ats_exit (lq_x (ats_nil (bq_n ?_)))
      repeat refine ats_seq ?_
      refine ats_go (by first | exact fix0 hcx | exact fix1 hcx rfl) fun K hK => ?_
      simp only [go_sem, Nat.reduceLT, Nat.reduceBNe, Nat.reduceBEq, Nat.reduceEqDiff, Nat.reduceAdd, Nat.reduceSub, Nat.reduceLeDiff, Int.reduceLE, Int.reduceLT, Int.reduceToNat, Int.reduceNeg, Int.reduceEq, ↓reduceIte, reduceCtorEq]
      repeat refine And.intro (by first | omega | (intro hq; first | omega | (simp only [decide_eq_false_iff_not, decide_eq_true_eq, Bool.not_eq_false', Bool.not_eq_true'] at hq; omega))) ?_
      refine hK _ ?_
      clear hK K
      refine ⟨i + 1, ⟨by omega, fun a ha => by rcases Nat.lt_succ_iff_lt_or_eq.1 ha with h | rfl; exact Hi a h; exact first_none (fun k hk => Hk k (by omega))⟩, by omega, .inl ⟨?_, rfl⟩⟩
      simp only [SlotsLe, St.get, slotGet, Nat.reduceEqDiff, ↓reduceIte, AV.int.injEq, AV.bool.injEq, AV.l1.injEq, AV.l2.injEq, AV.l3.injEq, true_and, and_true]
      omega
  · refine ats_exit (lq_x ?_)
    repeat refine ats_seq ?_
    refine ats_go (by first | exact fix0 hcx | exact fix1 hcx rfl) fun K hK => ?_
    simp only [go_sem, Nat.reduceLT, Nat.reduceBNe, Nat.reduceBEq, Nat.reduceEqDiff, Nat.reduceAdd, Nat.reduceSub, Nat.reduceLeDiff, Int.reduceLE, Int.reduceLT, Int.reduceToNat, Int.reduceNeg, Int.reduceEq, ↓reduceIte, reduceCtorEq]
    refine hK _ ?_
    clear hK K
    have e : unitF t = none := first_none (fun i hi => Hi i (by omega))
    exact ats_ret (ownV (is := []) rfl ⟨rfl, trivial⟩ (by rw [e]; rfl) (by simp))

theorem onlyOf_ok' (t : List (List (List Int))) (hc : Cube t) (i : Int) (h0 : 0 ≤ i) (hi : i < t.length) : PureCall Try.prog 150 [.agg [.l3 t], .int i] (.int (dual t i.toNat)) := by
  obtain ⟨k, rfl⟩ := Int.eq_ofNat_of_zero_le h0
  exact onlyOf_ok t hc k (by omega)

theorem dualFault_ok (t : List (List (List Int))) (hc : Cube t) : PureCall Try.prog 146 [.agg [.l3 t]] (.int (match dualF t with | some (_ :: i :: _) => i | _ => -1)) := by
  have h16 := hc.2.1
  have h1 := hc.1
  refine PureCall.intro (n := 25) (rs := [.tmp 2]) Try.call146 Try.func146 rfl rfl rfl (by simp only [List.length_cons, List.length_nil]; omega) (fun cx hcx => ats_of ?_)
  simp only [argSlots, Nat.zero_add, Nat.reduceAdd]
  repeat refine ats_seq ?_
  refine ats_go (by first | exact fix0 hcx | exact fix1 hcx rfl) fun K hK => ?_
  simp only [go_sem, Nat.reduceLT, Nat.reduceBNe, Nat.reduceBEq, Nat.reduceEqDiff, Nat.reduceAdd, Nat.reduceSub, Nat.reduceLeDiff, Int.reduceLE, Int.reduceLT, Int.reduceToNat, Int.reduceNeg, Int.reduceEq, ↓reduceIte, reduceCtorEq]
  refine hK _ ?_
  clear hK K
  repeat refine ats_seq ?_
  refine ats_go (by first | exact fix0 hcx | exact fix1 hcx rfl) fun K hK => ?_
  simp only [go_sem, Nat.reduceLT, Nat.reduceBNe, Nat.reduceBEq, Nat.reduceEqDiff, Nat.reduceAdd, Nat.reduceSub, Nat.reduceLeDiff, Int.reduceLE, Int.reduceLT, Int.reduceToNat, Int.reduceNeg, Int.reduceEq, ↓reduceIte, reduceCtorEq]
  refine hK _ ?_
  clear hK K
  repeat refine ats_seq ?_
  refine ats_loop (fun i : Nat => ⟨[(1, .bptr 0 0), (7, .int t.length), (8, .int i)], [(0, .bx [.l3 t])]⟩) (fun i => i ≤ t.length ∧ ∀ b, b < i → dualH t b = none) (fun i => t.length - i) 0 ⟨Nat.zero_le _, fun a h => absurd h (Nat.not_lt_zero a)⟩ (by refine And.intro ?_ rfl; simp only [SlotsLe, St.get, slotGet, Nat.reduceEqDiff, ↓reduceIte, AV.int.injEq, AV.bool.injEq, AV.l1.injEq, AV.l2.injEq, AV.l3.injEq, true_and, and_true]; rfl) (fun i hi => ?_)
  obtain ⟨hi, Hi⟩ := hi
  repeat refine ats_seq ?_
  refine ats_go (by first | exact fix0 hcx | exact fix1 hcx rfl) fun K hK => ?_
  simp only [go_sem, Nat.reduceLT, Nat.reduceBNe, Nat.reduceBEq, Nat.reduceEqDiff, Nat.reduceAdd, Nat.reduceSub, Nat.reduceLeDiff, Int.reduceLE, Int.reduceLT, Int.reduceToNat, Int.reduceNeg, Int.reduceEq, ↓reduceIte, reduceCtorEq]
  refine hK _ ?_
  clear hK K
  repeat refine ats_seq ?_
  first | refine ats_ifn (p := _) rfl trivial (fun hli => ?_) (fun hli => ?_) | refine ats_ifp (p := _) rfl trivial (fun hli => ?_) (fun hli => ?_) | refine ats_cond rfl trivial (fun hli => ?_) (fun hli => ?_)
  · have hdr := dual_range t i
    refine ats_skip ?_
    repeat refine ats_seq ?_
    refine ats_block ?_
    repeat refine ats_seq ?_
    refine ats_go (by first | exact fix0 hcx | exact fix1 hcx rfl) fun K hK => ?_
    simp only [go_sem, Nat.reduceLT, Nat.reduceBNe, Nat.reduceBEq, Nat.reduceEqDiff, Nat.reduceAdd, Nat.reduceSub, Nat.reduceLeDiff, Int.reduceLE, Int.reduceLT, Int.reduceToNat, Int.reduceNeg, Int.reduceEq, ↓reduceIte, reduceCtorEq]
    refine hK _ ?_
    clear hK K
    repeat refine ats_seq ?_
    refine ats_go (by first | exact fix0 hcx | exact fix1 hcx rfl) fun K hK => ?_
    simp only [go_sem, Nat.reduceLT, Nat.reduceBNe, Nat.reduceBEq, Nat.reduceEqDiff, Nat.reduceAdd, Nat.reduceSub, Nat.reduceLeDiff, Int.reduceLE, Int.reduceLT, Int.reduceToNat, Int.reduceNeg, Int.reduceEq, ↓reduceIte, reduceCtorEq]
    first | refine fcall_free rfl rfl (onlyOf_ok t hc i (by omega)) ?_ | refine YR_intro (acall_free rfl rfl (onlyOf_ok t hc i (by omega))) ?_
    simp only [go_sem, Nat.reduceLT, Nat.reduceBNe, Nat.reduceBEq, Nat.reduceEqDiff, Nat.reduceAdd, Nat.reduceSub, Nat.reduceLeDiff, Int.reduceLE, Int.reduceLT, Int.reduceToNat, Int.reduceNeg, Int.reduceEq, ↓reduceIte, reduceCtorEq]
    refine hK _ ?_
    clear hK K
    repeat refine ats_seq ?_
    refine ats_go (by first | exact fix0 hcx | exact fix1 hcx rfl) fun K hK => ?_
    simp only [go_sem, Nat.reduceLT, Nat.reduceBNe, Nat.reduceBEq, Nat.reduceEqDiff, Nat.reduceAdd, Nat.reduceSub, Nat.reduceLeDiff, Int.reduceLE, Int.reduceLT, Int.reduceToNat, Int.reduceNeg, Int.reduceEq, ↓reduceIte, reduceCtorEq]
    refine YR_intro (fun hg => acall_free rfl rfl (onlyOf_ok' t hc (dual t i) (by simp only [decide_eq_false_iff_not] at hg; omega) hdr.2)) ?_
    simp only [go_sem, Nat.reduceLT, Nat.reduceBNe, Nat.reduceBEq, Nat.reduceEqDiff, Nat.reduceAdd, Nat.reduceSub, Nat.reduceLeDiff, Int.reduceLE, Int.reduceLT, Int.reduceToNat, Int.reduceNeg, Int.reduceEq, ↓reduceIte, reduceCtorEq]
    refine hK _ ?_
    clear hK K
    repeat refine ats_seq ?_
    first | refine ats_ifn (p := _) rfl trivial (fun h2 => ?_) (fun h2 => ?_) | refine ats_ifp (p := _) rfl trivial (fun h2 => ?_) (fun h2 => ?_) | refine ats_cond rfl trivial (fun h2 => ?_) (fun h2 => ?_)
    · simp only [Bool.or_eq_true, decide_eq_true_eq, Bool.not_eq_true', decide_eq_false_iff_not] at h2
      repeat refine ats_seq ?_
      refine ats_go (by first | exact fix0 hcx | exact fix1 hcx rfl) fun K hK => ?_
      simp only [go_sem, Nat.reduceLT, Nat.reduceBNe, Nat.reduceBEq, Nat.reduceEqDiff, Nat.reduceAdd, Nat.reduceSub, Nat.reduceLeDiff, Int.reduceLE, Int.reduceLT, Int.reduceToNat, Int.reduceNeg, Int.reduceEq, ↓reduceIte, reduceCtorEq]
      refine hK _ ?_
      clear hK K
      have e : dualF t = some [1, (i : Int)] := first_some (by omega) Hi (if_pos h2)
      refine ats_ret (finI rfl ?_)
      rw [e]
    · simp only [Bool.or_eq_false_iff, decide_eq_false_iff_not, Bool.not_eq_false', decide_eq_true_eq] at h2
      refine ats_skip ?_
      repeat refine ats_seq ?_
      refine ats_go (by first | exact fix0 hcx | exact fix1 hcx rfl) fun K hK => ?_
      simp only [go_sem, Nat.reduceLT, Nat.reduceBNe, Nat.reduceBEq, Nat.reduceEqDiff, Nat.reduceAdd, Nat.reduceSub, Nat.reduceLeDiff, Int.reduceLE, Int.reduceLT, Int.reduceToNat, Int.reduceNeg, Int.reduceEq, ↓reduceIte, reduceCtorEq]
      repeat refine And.intro (by first | omega | (intro hq; first | omega | (simp only [decide_eq_false_iff_not, decide_eq_true_eq, Bool.not_eq_false', Bool.not_eq_true'] at hq; omega))) ?_
      refine hK _ ?_
      clear hK K
      refine ⟨i + 1, ⟨by omega, fun a ha => by rcases Nat.lt_succ_iff_lt_or_eq.1 ha with h | rfl; exact Hi a h; exact if_neg (fun h => h.elim (fun h => h2.1 h) (fun h => h h2.2))⟩, by omega, .inl ⟨?_, rfl⟩⟩
      simp only [SlotsLe, St.get, slotGet, Nat.reduceEqDiff, ↓reduceIte, AV.int.injEq, AV.bool.injEq, AV.l1.injEq, AV.l2.injEq, AV.l3.injEq, true_and, and_true]
      omega
  · refine ats_exit (lq_x ?_)
    repeat refine ats_seq ?_
    refine ats_go (by first | exact fix0 hcx | exact fix1 hcx rfl) fun K hK => ?_
    simp only [go_sem, Nat.reduceLT, Nat.reduceBNe, Nat.reduceBEq, Nat.reduceEqDiff, Nat.reduceAdd, Nat.reduceSub, Nat.reduceLeDiff, Int.reduceLE, Int.reduceLT, Int.reduceToNat, Int.reduceNeg, Int.reduceEq, ↓reduceIte, reduceCtorEq]
    refine hK _ ?_
    clear hK K
    have e : dualF t = none := first_none (fun i hi => Hi i (by omega))
    refine ats_ret (finI rfl ?_)
    rw [e]

/-- The duals, one after the other. -/
theorem duals_ok (t : List (List (List Int))) (hc : Cube t) : FreshCall Try.prog 99 [.agg [.l3 t]] (.l1 (ds t)) := by
  have h16 := hc.2.1
  have h1 := hc.1
  refine FreshCall.intro (n := 20) (rs := [.tmp 2]) Try.call99 Try.func99 rfl rfl rfl (by simp only [List.length_cons, List.length_nil]; omega) (fun cx hcx => ats_of ?_)
  simp only [argSlots, Nat.zero_add, Nat.reduceAdd]
  repeat refine ats_seq ?_
  refine ats_go (by first | exact fix0 hcx | exact fix1 hcx rfl) fun K hK => ?_
  simp only [go_sem, Nat.reduceLT, Nat.reduceBNe, Nat.reduceBEq, Nat.reduceEqDiff, Nat.reduceAdd, Nat.reduceSub, Nat.reduceLeDiff, Int.reduceLE, Int.reduceLT, Int.reduceToNat, Int.reduceNeg, Int.reduceEq, ↓reduceIte, reduceCtorEq]
  refine hK _ ?_
  clear hK K
  repeat refine ats_seq ?_
  refine ats_go (by first | exact fix0 hcx | exact fix1 hcx rfl) fun K hK => ?_
  simp only [go_sem, Nat.reduceLT, Nat.reduceBNe, Nat.reduceBEq, Nat.reduceEqDiff, Nat.reduceAdd, Nat.reduceSub, Nat.reduceLeDiff, Int.reduceLE, Int.reduceLT, Int.reduceToNat, Int.reduceNeg, Int.reduceEq, ↓reduceIte, reduceCtorEq]
  refine hK _ ?_
  clear hK K
  repeat refine ats_seq ?_
  refine ats_go (by first | exact fix0 hcx | exact fix1 hcx rfl) fun K hK => ?_
  simp only [go_sem, Nat.reduceLT, Nat.reduceBNe, Nat.reduceBEq, Nat.reduceEqDiff, Nat.reduceAdd, Nat.reduceSub, Nat.reduceLeDiff, Int.reduceLE, Int.reduceLT, Int.reduceToNat, Int.reduceNeg, Int.reduceEq, ↓reduceIte, reduceCtorEq]
  refine hK _ ?_
  clear hK K
  repeat refine ats_seq ?_
  refine ats_loop (fun i : Nat => ⟨[(1, .bptr 0 0), (3, .ref 1 []), (8, .int t.length), (9, .int i)], [(0, .bx [.l3 t]), (1, .t1 ((List.range i).map (dual t)))]⟩) (fun i => i ≤ t.length) (fun i => t.length - i) 0 (Nat.zero_le _) (by
    refine And.intro ?_ rfl
    simp only [SlotsLe, St.get, slotGet, Nat.reduceEqDiff, ↓reduceIte, true_and, and_true, AV.int.injEq]
    rfl) (fun i hi => ?_)
  repeat refine ats_seq ?_
  refine ats_go (by first | exact fix0 hcx | exact fix1 hcx rfl) fun K hK => ?_
  simp only [go_sem, Nat.reduceLT, Nat.reduceBNe, Nat.reduceBEq, Nat.reduceEqDiff, Nat.reduceAdd, Nat.reduceSub, Nat.reduceLeDiff, Int.reduceLE, Int.reduceLT, Int.reduceToNat, Int.reduceNeg, Int.reduceEq, ↓reduceIte, reduceCtorEq]
  refine hK _ ?_
  clear hK K
  repeat refine ats_seq ?_
  first | refine ats_ifn (p := _) rfl trivial (fun hli => ?_) (fun hli => ?_) | refine ats_ifp (p := _) rfl trivial (fun hli => ?_) (fun hli => ?_) | refine ats_cond rfl trivial (fun hli => ?_) (fun hli => ?_)
  · have hl : ((List.range i).map (dual t)).length = i := by simp
    refine ats_skip ?_
    repeat refine ats_seq ?_
    refine ats_block ?_
    repeat refine ats_seq ?_
    refine ats_go (by first | exact fix0 hcx | exact fix1 hcx rfl) fun K hK => ?_
    simp only [go_sem, Nat.reduceLT, Nat.reduceBNe, Nat.reduceBEq, Nat.reduceEqDiff, Nat.reduceAdd, Nat.reduceSub, Nat.reduceLeDiff, Int.reduceLE, Int.reduceLT, Int.reduceToNat, Int.reduceNeg, Int.reduceEq, ↓reduceIte, reduceCtorEq]
    refine hK _ ?_
    clear hK K
    repeat refine ats_seq ?_
    refine ats_go (by first | exact fix0 hcx | exact fix1 hcx rfl) fun K hK => ?_
    simp only [go_sem, Nat.reduceLT, Nat.reduceBNe, Nat.reduceBEq, Nat.reduceEqDiff, Nat.reduceAdd, Nat.reduceSub, Nat.reduceLeDiff, Int.reduceLE, Int.reduceLT, Int.reduceToNat, Int.reduceNeg, Int.reduceEq, ↓reduceIte, reduceCtorEq]
    first | refine fcall_free rfl rfl (onlyOf_ok t hc i (by omega)) ?_ | refine YR_intro (acall_free rfl rfl (onlyOf_ok t hc i (by omega))) ?_
    simp only [go_sem, Nat.reduceLT, Nat.reduceBNe, Nat.reduceBEq, Nat.reduceEqDiff, Nat.reduceAdd, Nat.reduceSub, Nat.reduceLeDiff, Int.reduceLE, Int.reduceLT, Int.reduceToNat, Int.reduceNeg, Int.reduceEq, ↓reduceIte, reduceCtorEq]
    repeat refine And.intro (by (first | omega | (rw [hl]; omega))) ?_
    refine hK _ ?_
    clear hK K
    repeat refine ats_seq ?_
    refine ats_go (by first | exact fix0 hcx | exact fix1 hcx rfl) fun K hK => ?_
    simp only [go_sem, Nat.reduceLT, Nat.reduceBNe, Nat.reduceBEq, Nat.reduceEqDiff, Nat.reduceAdd, Nat.reduceSub, Nat.reduceLeDiff, Int.reduceLE, Int.reduceLT, Int.reduceToNat, Int.reduceNeg, Int.reduceEq, ↓reduceIte, reduceCtorEq]
    repeat refine And.intro (by first | omega | (intro hq; first | omega | (simp only [decide_eq_false_iff_not, decide_eq_true_eq, Bool.not_eq_false', Bool.not_eq_true'] at hq; omega))) ?_
    refine hK _ ?_
    clear hK K
    refine ⟨i + 1, by omega, by omega, .inr ⟨[2], by simp only [killL, List.map_cons, List.map_nil, killA, killAs, qOf, rmT, killH, killT, List.filter_cons, List.filter_nil, List.contains_cons, List.contains_nil, SlotsLe, St.get, slotGet, Nat.reduceEqDiff, Nat.reduceBEq, Bool.or_false, Bool.or_true, Bool.false_and, Bool.not_true, Bool.not_false, Bool.false_eq_true, ↓reduceIte, if_true, if_false, AV.int.injEq, AV.bool.injEq, AV.l1.injEq, AV.l2.injEq, AV.l3.injEq, true_and, and_true]; omega, by simp only [killL, List.map_cons, List.map_nil, killA, killAs, qOf, rmT, killH, killT, List.filter_cons, List.filter_nil, List.contains_cons, List.contains_nil, SlotsLe, St.get, slotGet, Nat.reduceEqDiff, Nat.reduceBEq, Bool.or_false, Bool.or_true, Bool.false_and, Bool.not_true, Bool.not_false, Bool.false_eq_true, ↓reduceIte, if_true, if_false, AV.int.injEq, AV.bool.injEq, AV.l1.injEq, AV.l2.injEq, AV.l3.injEq, true_and, and_true]; simp only [List.range_succ, List.map_append, List.map_cons, List.map_nil]⟩⟩
  · obtain rfl : i = t.length := by omega
    refine ats_exit (lq_x ?_)
    repeat refine ats_seq ?_
    refine ats_go (by first | exact fix0 hcx | exact fix1 hcx rfl) fun K hK => ?_
    simp only [go_sem, Nat.reduceLT, Nat.reduceBNe, Nat.reduceBEq, Nat.reduceEqDiff, Nat.reduceAdd, Nat.reduceSub, Nat.reduceLeDiff, Int.reduceLE, Int.reduceLT, Int.reduceToNat, Int.reduceNeg, Int.reduceEq, ↓reduceIte, reduceCtorEq]
    refine hK _ ?_
    clear hK K
    exact ats_ret (ownV (is := [1]) rfl ⟨rfl, trivial⟩ rfl (by simp))
end Go.Proofs.Ytomfedhhfcelkaa
