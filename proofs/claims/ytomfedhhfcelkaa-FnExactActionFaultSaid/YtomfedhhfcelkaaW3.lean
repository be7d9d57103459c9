import Derived.Test.YtomfedhhfcelkaaW1
import Derived.Test.YtomfedhhfcelkaaPlA
set_option linter.unusedSimpArgs false
set_option linter.unusedVariables false
namespace Go.Proofs.Ytomfedhhfcelkaa
open Go Go.Aw Go.Pl

theorem toInt64S_ok (xs : List Int) (hl : xs.length ≤ 1099511627776) : FreshCall Try.prog 48 [.l1 xs] (.l1 xs) := by
  refine FreshCall.intro (n := 22) (rs := [.tmp 2]) Try.call48 Try.func48 rfl rfl rfl (by simp only [List.length_cons, List.length_nil]; omega) (fun cx hcx => ats_of ?_)
  simp only [argSlots, Nat.zero_add, Nat.reduceAdd]
  repeat refine ats_seq ?_
  refine ats_go (by first | exact fix0 hcx | exact fix1 hcx rfl) fun K hK => ?_
  simp only [go_sem, Nat.reduceLT, Nat.reduceBNe, Nat.reduceBEq, Nat.reduceEqDiff, Nat.reduceAdd, Nat.reduceSub, Nat.reduceLeDiff, Int.reduceLE, Int.reduceLT, Int.reduceToNat, Int.reduceNeg, Int.reduceEq, ↓reduceIte, reduceCtorEq]
  refine hK _ ?_
  clear hK K
  refine ats_know 0 fun h0 => ?_
  simp only [St.get, slotGet, Nat.reduceEqDiff, ↓reduceIte, if_true, fact, facts] at h0
  repeat refine ats_seq ?_
  refine ats_go (by first | exact fix0 hcx | exact fix1 hcx rfl) fun K hK => ?_
  simp only [go_sem, Nat.reduceLT, Nat.reduceBNe, Nat.reduceBEq, Nat.reduceEqDiff, Nat.reduceAdd, Nat.reduceSub, Nat.reduceLeDiff, Int.reduceLE, Int.reduceLT, Int.reduceToNat, Int.reduceNeg, Int.reduceEq, ↓reduceIte, reduceCtorEq]
  repeat refine And.intro (by first | omega | (intro hq; first | omega | (simp only [decide_eq_false_iff_not, decide_eq_true_eq, Bool.not_eq_false', Bool.not_eq_true'] at hq; omega))) ?_
  refine hK _ ?_
  clear hK K
  repeat refine ats_seq ?_
  refine ats_go (by first | exact fix0 hcx | exact fix1 hcx rfl) fun K hK => ?_
  simp only [go_sem, Nat.reduceLT, Nat.reduceBNe, Nat.reduceBEq, Nat.reduceEqDiff, Nat.reduceAdd, Nat.reduceSub, Nat.reduceLeDiff, Int.reduceLE, Int.reduceLT, Int.reduceToNat, Int.reduceNeg, Int.reduceEq, ↓reduceIte, reduceCtorEq]
  refine hK _ ?_
  clear hK K
  repeat refine ats_seq ?_
  refine ats_loop (fun k : Nat => ⟨[(0, .l1 xs), (3, .ref 0 []), (4, .int k)], [(0, .t1 (fill 0 xs k))]⟩) (fun k => k ≤ xs.length) (fun k => xs.length - k) 0 (Nat.zero_le _) (by
    refine And.intro ?_ (by simp only [fill_zero])
    simp only [SlotsLe, St.get, slotGet, Nat.reduceEqDiff, ↓reduceIte, true_and, and_true]
    rfl) (fun k hk => ?_)
  repeat refine ats_seq ?_
  refine ats_go (by first | exact fix0 hcx | exact fix1 hcx rfl) fun K hK => ?_
  simp only [go_sem, Nat.reduceLT, Nat.reduceBNe, Nat.reduceBEq, Nat.reduceEqDiff, Nat.reduceAdd, Nat.reduceSub, Nat.reduceLeDiff, Int.reduceLE, Int.reduceLT, Int.reduceToNat, Int.reduceNeg, Int.reduceEq, ↓reduceIte, reduceCtorEq]
  refine hK _ ?_
  clear hK K
  repeat refine ats_seq ?_
  first | refine ats_ifn (p := _) rfl trivial (fun h1 => ?_) (fun h1 => ?_) | refine ats_ifp (p := _) rfl trivial (fun h1 => ?_) (fun h1 => ?_) | refine ats_cond rfl trivial (fun h1 => ?_) (fun h1 => ?_)
  · refine ats_skip ?_
    repeat refine ats_seq ?_
    refine ats_block ?_
    have hfl := fill_length (d := (0 : Int)) hk
    repeat refine ats_seq ?_
    refine ats_go (by first | exact fix0 hcx | exact fix1 hcx rfl) fun K hK => ?_
    simp only [go_sem, Nat.reduceLT, Nat.reduceBNe, Nat.reduceBEq, Nat.reduceEqDiff, Nat.reduceAdd, Nat.reduceSub, Nat.reduceLeDiff, Int.reduceLE, Int.reduceLT, Int.reduceToNat, Int.reduceNeg, Int.reduceEq, ↓reduceIte, reduceCtorEq]
    repeat refine And.intro (by (first | omega | (rw [fill_length hk]; omega))) ?_
    refine hK _ ?_
    clear hK K
    repeat refine ats_seq ?_
    refine ats_go (by first | exact fix0 hcx | exact fix1 hcx rfl) fun K hK => ?_
    simp only [go_sem, Nat.reduceLT, Nat.reduceBNe, Nat.reduceBEq, Nat.reduceEqDiff, Nat.reduceAdd, Nat.reduceSub, Nat.reduceLeDiff, Int.reduceLE, Int.reduceLT, Int.reduceToNat, Int.reduceNeg, Int.reduceEq, ↓reduceIte, reduceCtorEq]
    repeat refine And.intro (by first | omega | (intro hq; first | omega | (simp only [decide_eq_false_iff_not, decide_eq_true_eq, Bool.not_eq_false', Bool.not_eq_true'] at hq; omega))) ?_
    refine hK _ ?_
    clear hK K
    refine ⟨k + 1,  by omega, by omega, .inl ⟨by simp only [SlotsLe, St.get, slotGet, Nat.reduceEqDiff, ↓reduceIte, AV.int.injEq, AV.bool.injEq, AV.l1.injEq, AV.l2.injEq, AV.l3.injEq, true_and, and_true]; omega,  by simp only [fill_step (show k < xs.length by omega)]⟩⟩
  · refine ats_exit (lq_x ?_)
    repeat refine ats_seq ?_
    refine ats_go (by first | exact fix0 hcx | exact fix1 hcx rfl) fun K hK => ?_
    simp only [go_sem, Nat.reduceLT, Nat.reduceBNe, Nat.reduceBEq, Nat.reduceEqDiff, Nat.reduceAdd, Nat.reduceSub, Nat.reduceLeDiff, Int.reduceLE, Int.reduceLT, Int.reduceToNat, Int.reduceNeg, Int.reduceEq, ↓reduceIte, reduceCtorEq]
    refine hK _ ?_
    clear hK K
    simp only [fill_all (d := (0 : Int)) (show xs.length ≤ k by omega)]
    exact ats_ret (ownV rfl ⟨rfl, trivial⟩ rfl (by simp))

theorem toInt64SS_ok (xs : List (List Int)) (hl : xs.length ≤ 1099511627776 ∧ ∀ x ∈ xs, x.length ≤ 1099511627776) : FreshCall Try.prog 126 [.l2 xs] (.l2 xs) := by
  refine FreshCall.intro (n := 23) (rs := [.tmp 2]) Try.call126 Try.func126 rfl rfl rfl (by simp only [List.length_cons, List.length_nil]; omega) (fun cx hcx => ats_of ?_)
  simp only [argSlots, Nat.zero_add, Nat.reduceAdd]
  repeat refine ats_seq ?_
  refine ats_go (by first | exact fix0 hcx | exact fix1 hcx rfl) fun K hK => ?_
  simp only [go_sem, Nat.reduceLT, Nat.reduceBNe, Nat.reduceBEq, Nat.reduceEqDiff, Nat.reduceAdd, Nat.reduceSub, Nat.reduceLeDiff, Int.reduceLE, Int.reduceLT, Int.reduceToNat, Int.reduceNeg, Int.reduceEq, ↓reduceIte, reduceCtorEq]
  refine hK _ ?_
  clear hK K
  refine ats_know 0 fun h0 => ?_
  simp only [St.get, slotGet, Nat.reduceEqDiff, ↓reduceIte, if_true, fact, facts] at h0
  have hl0 := hl.1
  repeat refine ats_seq ?_
  refine ats_go (by first | exact fix0 hcx | exact fix1 hcx rfl) fun K hK => ?_
  simp only [go_sem, Nat.reduceLT, Nat.reduceBNe, Nat.reduceBEq, Nat.reduceEqDiff, Nat.reduceAdd, Nat.reduceSub, Nat.reduceLeDiff, Int.reduceLE, Int.reduceLT, Int.reduceToNat, Int.reduceNeg, Int.reduceEq, ↓reduceIte, reduceCtorEq]
  repeat refine And.intro (by first | omega | (intro hq; first | omega | (simp only [decide_eq_false_iff_not, decide_eq_true_eq, Bool.not_eq_false', Bool.not_eq_true'] at hq; omega))) ?_
  refine hK _ ?_
  clear hK K
  repeat refine ats_seq ?_
  refine ats_go (by first | exact fix0 hcx | exact fix1 hcx rfl) fun K hK => ?_
  simp only [go_sem, Nat.reduceLT, Nat.reduceBNe, Nat.reduceBEq, Nat.reduceEqDiff, Nat.reduceAdd, Nat.reduceSub, Nat.reduceLeDiff, Int.reduceLE, Int.reduceLT, Int.reduceToNat, Int.reduceNeg, Int.reduceEq, ↓reduceIte, reduceCtorEq]
  refine hK _ ?_
  clear hK K
  repeat refine ats_seq ?_
  refine ats_loop (fun k : Nat => ⟨[(0, .l2 xs), (3, .ref 0 []), (4, .int k)], [(0, .t2 (fill [] xs k))]⟩) (fun k => k ≤ xs.length) (fun k => xs.length - k) 0 (Nat.zero_le _) (by
    refine And.intro ?_ (by simp only [fill_zero])
    simp only [SlotsLe, St.get, slotGet, Nat.reduceEqDiff, ↓reduceIte, true_and, and_true]
    rfl) (fun k hk => ?_)
  repeat refine ats_seq ?_
  refine ats_go (by first | exact fix0 hcx | exact fix1 hcx rfl) fun K hK => ?_
  simp only [go_sem, Nat.reduceLT, Nat.reduceBNe, Nat.reduceBEq, Nat.reduceEqDiff, Nat.reduceAdd, Nat.reduceSub, Nat.reduceLeDiff, Int.reduceLE, Int.reduceLT, Int.reduceToNat, Int.reduceNeg, Int.reduceEq, ↓reduceIte, reduceCtorEq]
  refine hK _ ?_
  clear hK K
  repeat refine ats_seq ?_
  first | refine ats_ifn (p := _) rfl trivial (fun h1 => ?_) (fun h1 => ?_) | refine ats_ifp (p := _) rfl trivial (fun h1 => ?_) (fun h1 => ?_) | refine ats_cond rfl trivial (fun h1 => ?_) (fun h1 => ?_)
  · refine ats_skip ?_
    repeat refine ats_seq ?_
    refine ats_block ?_
    have hfl := fill_length (d := ([] : List Int)) hk
    repeat refine ats_seq ?_
    refine ats_go (by first | exact fix0 hcx | exact fix1 hcx rfl) fun K hK => ?_
    simp only [go_sem, Nat.reduceLT, Nat.reduceBNe, Nat.reduceBEq, Nat.reduceEqDiff, Nat.reduceAdd, Nat.reduceSub, Nat.reduceLeDiff, Int.reduceLE, Int.reduceLT, Int.reduceToNat, Int.reduceNeg, Int.reduceEq, ↓reduceIte, reduceCtorEq]
    repeat refine And.intro (by first | omega | (intro hq; first | omega | (simp only [decide_eq_false_iff_not, decide_eq_true_eq, Bool.not_eq_false', Bool.not_eq_true'] at hq; omega))) ?_
    refine fcall_own rfl (toInt64S_ok (xs.getD k []) (hl.2 _ (getD_mem (by omega)))) rfl ?_
    simp only [go_sem, Nat.reduceLT, Nat.reduceBNe, Nat.reduceBEq, Nat.reduceEqDiff, Nat.reduceAdd, Nat.reduceSub, Nat.reduceLeDiff, Int.reduceLE, Int.reduceLT, Int.reduceToNat, Int.reduceNeg, Int.reduceEq, ↓reduceIte, reduceCtorEq]
    repeat refine And.intro (by (first | omega | (rw [fill_length hk]; omega))) ?_
    refine hK _ ?_
    clear hK K
    repeat refine ats_seq ?_
    refine ats_go (by first | exact fix0 hcx | exact fix1 hcx rfl) fun K hK => ?_
    simp only [go_sem, Nat.reduceLT, Nat.reduceBNe, Nat.reduceBEq, Nat.reduceEqDiff, Nat.reduceAdd, Nat.reduceSub, Nat.reduceLeDiff, Int.reduceLE, Int.reduceLT, Int.reduceToNat, Int.reduceNeg, Int.reduceEq, ↓reduceIte, reduceCtorEq]
    repeat refine And.intro (by first | omega | (intro hq; first | omega | (simp only [decide_eq_false_iff_not, decide_eq_true_eq, Bool.not_eq_false', Bool.not_eq_true'] at hq; omega))) ?_
    refine hK _ ?_
    clear hK K
    refine ⟨k + 1,  by omega, by omega, .inl ⟨by simp only [SlotsLe, St.get, slotGet, Nat.reduceEqDiff, ↓reduceIte, AV.int.injEq, AV.bool.injEq, AV.l1.injEq, AV.l2.injEq, AV.l3.injEq, true_and, and_true]; omega,  by simp only [fill_step (show k < xs.length by omega)]⟩⟩
  · refine ats_exit (lq_x ?_)
    repeat refine ats_seq ?_
    refine ats_go (by first | exact fix0 hcx | exact fix1 hcx rfl) fun K hK => ?_
    simp only [go_sem, Nat.reduceLT, Nat.reduceBNe, Nat.reduceBEq, Nat.reduceEqDiff, Nat.reduceAdd, Nat.reduceSub, Nat.reduceLeDiff, Int.reduceLE, Int.reduceLT, Int.reduceToNat, Int.reduceNeg, Int.reduceEq, ↓reduceIte, reduceCtorEq]
    refine hK _ ?_
    clear hK K
    simp only [fill_all (d := ([] : List Int)) (show xs.length ≤ k by omega)]
    exact ats_ret (ownV rfl ⟨rfl, trivial⟩ rfl (by simp))

theorem toInt64SSS_ok (xs : List (List (List Int))) (hl : xs.length ≤ 1099511627776 ∧ ∀ x ∈ xs, x.length ≤ 1099511627776 ∧ ∀ y ∈ x, y.length ≤ 1099511627776) : FreshCall Try.prog 72 [.l3 xs] (.l3 xs) := by
  refine FreshCall.intro (n := 23) (rs := [.tmp 2]) Try.call72 Try.func72 rfl rfl rfl (by simp only [List.length_cons, List.length_nil]; omega) (fun cx hcx => ats_of ?_)
  simp only [argSlots, Nat.zero_add, Nat.reduceAdd]
  repeat refine ats_seq ?_
  refine ats_go (by first | exact fix0 hcx | exact fix1 hcx rfl) fun K hK => ?_
  simp only [go_sem, Nat.reduceLT, Nat.reduceBNe, Nat.reduceBEq, Nat.reduceEqDiff, Nat.reduceAdd, Nat.reduceSub, Nat.reduceLeDiff, Int.reduceLE, Int.reduceLT, Int.reduceToNat, Int.reduceNeg, Int.reduceEq, ↓reduceIte, reduceCtorEq]
  refine hK _ ?_
  clear hK K
  refine ats_know 0 fun h0 => ?_
  simp only [St.get, slotGet, Nat.reduceEqDiff, ↓reduceIte, if_true, fact, facts] at h0
  have hl0 := hl.1
  repeat refine ats_seq ?_
  refine ats_go (by first | exact fix0 hcx | exact fix1 hcx rfl) fun K hK => ?_
  simp only [go_sem, Nat.reduceLT, Nat.reduceBNe, Nat.reduceBEq, Nat.reduceEqDiff, Nat.reduceAdd, Nat.reduceSub, Nat.reduceLeDiff, Int.reduceLE, Int.reduceLT, Int.reduceToNat, Int.reduceNeg, Int.reduceEq, ↓reduceIte, reduceCtorEq]
  repeat refine And.intro (by first | omega | (intro hq; first | omega | (simp only [decide_eq_false_iff_not, decide_eq_true_eq, Bool.not_eq_false', Bool.not_eq_true'] at hq; omega))) ?_
  refine hK _ ?_
  clear hK K
  repeat refine ats_seq ?_
  refine ats_go (by first | exact fix0 hcx | exact fix1 hcx rfl) fun K hK => ?_
  simp only [go_sem, Nat.reduceLT, Nat.reduceBNe, Nat.reduceBEq, Nat.reduceEqDiff, Nat.reduceAdd, Nat.reduceSub, Nat.reduceLeDiff, Int.reduceLE, Int.reduceLT, Int.reduceToNat, Int.reduceNeg, Int.reduceEq, ↓reduceIte, reduceCtorEq]
  refine hK _ ?_
  clear hK K
  repeat refine ats_seq ?_
  refine ats_loop (fun k : Nat => ⟨[(0, .l3 xs), (3, .ref 0 []), (4, .int k)], [(0, .t3 (fill [] xs k))]⟩) (fun k => k ≤ xs.length) (fun k => xs.length - k) 0 (Nat.zero_le _) (by
    refine And.intro ?_ (by simp only [fill_zero])
    simp only [SlotsLe, St.get, slotGet, Nat.reduceEqDiff, ↓reduceIte, true_and, and_true]
    rfl) (fun k hk => ?_)
  repeat refine ats_seq ?_
  refine ats_go (by first | exact fix0 hcx | exact fix1 hcx rfl) fun K hK => ?_
  simp only [go_sem, Nat.reduceLT, Nat.reduceBNe, Nat.reduceBEq, Nat.reduceEqDiff, Nat.reduceAdd, Nat.reduceSub, Nat.reduceLeDiff, Int.reduceLE, Int.reduceLT, Int.reduceToNat, Int.reduceNeg, Int.reduceEq, ↓reduceIte, reduceCtorEq]
  refine hK _ ?_
  clear hK K
  repeat refine ats_seq ?_
  first | refine ats_ifn (p := _) rfl trivial (fun h1 => ?_) (fun h1 => ?_) | refine ats_ifp (p := _) rfl trivial (fun h1 => ?_) (fun h1 => ?_) | refine ats_cond rfl trivial (fun h1 => ?_) (fun h1 => ?_)
  · refine ats_skip ?_
    repeat refine ats_seq ?_
    refine ats_block ?_
    have hfl := fill_length (d := ([] : List (List Int))) hk
    repeat refine ats_seq ?_
    refine ats_go (by first | exact fix0 hcx | exact fix1 hcx rfl) fun K hK => ?_
    simp only [go_sem, Nat.reduceLT, Nat.reduceBNe, Nat.reduceBEq, Nat.reduceEqDiff, Nat.reduceAdd, Nat.reduceSub, Nat.reduceLeDiff, Int.reduceLE, Int.reduceLT, Int.reduceToNat, Int.reduceNeg, Int.reduceEq, ↓reduceIte, reduceCtorEq]
    repeat refine And.intro (by first | omega | (intro hq; first | omega | (simp only [decide_eq_false_iff_not, decide_eq_true_eq, Bool.not_eq_false', Bool.not_eq_true'] at hq; omega))) ?_
    refine fcall_own rfl (toInt64SS_ok (xs.getD k []) (hl.2 _ (getD_mem (by omega)))) rfl ?_
    simp only [go_sem, Nat.reduceLT, Nat.reduceBNe, Nat.reduceBEq, Nat.reduceEqDiff, Nat.reduceAdd, Nat.reduceSub, Nat.reduceLeDiff, Int.reduceLE, Int.reduceLT, Int.reduceToNat, Int.reduceNeg, Int.reduceEq, ↓reduceIte, reduceCtorEq]
    repeat refine And.intro (by (first | omega | (rw [fill_length hk]; omega))) ?_
    refine hK _ ?_
    clear hK K
    repeat refine ats_seq ?_
    refine ats_go (by first | exact fix0 hcx | exact fix1 hcx rfl) fun K hK => ?_
    simp only [go_sem, Nat.reduceLT, Nat.reduceBNe, Nat.reduceBEq, Nat.reduceEqDiff, Nat.reduceAdd, Nat.reduceSub, Nat.reduceLeDiff, Int.reduceLE, Int.reduceLT, Int.reduceToNat, Int.reduceNeg, Int.reduceEq, ↓reduceIte, reduceCtorEq]
    repeat refine And.intro (by first | omega | (intro hq; first | omega | (simp only [decide_eq_false_iff_not, decide_eq_true_eq, Bool.not_eq_false', Bool.not_eq_true'] at hq; omega))) ?_
    refine hK _ ?_
    clear hK K
    refine ⟨k + 1,  by omega, by omega, .inl ⟨by simp only [SlotsLe, St.get, slotGet, Nat.reduceEqDiff, ↓reduceIte, AV.int.injEq, AV.bool.injEq, AV.l1.injEq, AV.l2.injEq, AV.l3.injEq, true_and, and_true]; omega,  by simp only [fill_step (show k < xs.length by omega)]⟩⟩
  · refine ats_exit (lq_x ?_)
    repeat refine ats_seq ?_
    refine ats_go (by first | exact fix0 hcx | exact fix1 hcx rfl) fun K hK => ?_
    simp only [go_sem, Nat.reduceLT, Nat.reduceBNe, Nat.reduceBEq, Nat.reduceEqDiff, Nat.reduceAdd, Nat.reduceSub, Nat.reduceLeDiff, Int.reduceLE, Int.reduceLT, Int.reduceToNat, Int.reduceNeg, Int.reduceEq, ↓reduceIte, reduceCtorEq]
    refine hK _ ?_
    clear hK K
    simp only [fill_all (d := ([] : List (List Int))) (show xs.length ≤ k by omega)]
    exact ats_ret (ownV rfl ⟨rfl, trivial⟩ rfl (by simp))
end Go.Proofs.Ytomfedhhfcelkaa
