import Derived.Test.YtomfedhhfcelkaaWh
set_option linter.unusedSimpArgs false
set_option linter.unusedVariables false
namespace Go.Proofs.Ytomfedhhfcelkaa
open Go Go.Aw Go.Pl

theorem isFamily1_ok (r : List Int) (n : Int) : PureCall Try.prog 128 [.l1 r, .cptr [.int n] 0] (.bool (rowBad n r)) := by
  refine PureCall.intro (n := 13) (rs := [.tmp 3]) Try.call128 Try.func128 rfl rfl rfl (by simp only [List.length_cons, List.length_nil]; omega) (fun cx hcx => ats_of ?_)
  simp only [argSlots, Nat.zero_add, Nat.reduceAdd]
  repeat refine ats_seq ?_
  refine ats_go (by first | exact fix0 hcx | exact fix1 hcx rfl) fun K hK => ?_
  simp only [go_sem, Nat.reduceLT, Nat.reduceBNe, Nat.reduceBEq, Nat.reduceEqDiff, Nat.reduceAdd, Nat.reduceSub, Nat.reduceLeDiff, Int.reduceLE, Int.reduceLT, Int.reduceToNat, Int.reduceNeg, Int.reduceEq, ↓reduceIte, reduceCtorEq]
  refine hK _ ?_
  clear hK K
  repeat refine ats_seq ?_
  refine ats_go (by first | exact fix0 hcx | exact fix1 hcx rfl) fun K hK => ?_
  simp only [go_sem, Nat.reduceLT, Nat.reduceBNe, Nat.reduceBEq, Nat.reduceEqDiff, Nat.reduceAdd, Nat.reduceSub, Nat.reduceLeDiff, Int.reduceLE, Int.reduceLT, Int.reduceToNat, Int.reduceNeg, Int.reduceEq, ↓reduceIte, reduceCtorEq]
  first | refine YR_intro (fun _ => acall_data (allWithin_ok r 0 1000) rfl) ?_ | refine YR_intro (acall_data (allWithin_ok r 0 1000) rfl) ?_
  simp only [go_sem, Nat.reduceLT, Nat.reduceBNe, Nat.reduceBEq, Nat.reduceEqDiff, Nat.reduceAdd, Nat.reduceSub, Nat.reduceLeDiff, Int.reduceLE, Int.reduceLT, Int.reduceToNat, Int.reduceNeg, Int.reduceEq, ↓reduceIte, reduceCtorEq]
  refine hK _ ?_
  clear hK K
  refine ats_ret (finB rfl ?_)
  rfl

theorem isFamily_ok (t a : List (List (List Int))) (hc : Cube t) : PureCall Try.prog 73 [.agg [.l3 t], .agg [.l3 a]] (.bool (bd (Fam t a))) := by
  have ht := hc.1
  refine PureCall.intro (n := 43) (rs := [.tmp 4]) Try.call73 Try.func73 rfl rfl rfl (by simp only [List.length_cons, List.length_nil]; omega) (fun cx hcx => ats_of ?_)
  simp only [argSlots, Nat.zero_add, Nat.reduceAdd]
  repeat refine ats_seq ?_
  refine ats_go (by first | exact fix0 hcx | exact fix1 hcx rfl) fun K hK => ?_
  simp only [go_sem, Nat.reduceLT, Nat.reduceBNe, Nat.reduceBEq, Nat.reduceEqDiff, Nat.reduceAdd, Nat.reduceSub, Nat.reduceLeDiff, Int.reduceLE, Int.reduceLT, Int.reduceToNat, Int.reduceNeg, Int.reduceEq, ↓reduceIte, reduceCtorEq]
  refine hK _ ?_
  clear hK K
  refine ats_know 1 fun ha => ?_
  simp only [St.get, slotGet, Nat.reduceEqDiff, ↓reduceIte, if_true, fact, facts] at ha
  have hal := ha.1.1
  repeat refine ats_seq ?_
  refine ats_go (by first | exact fix0 hcx | exact fix1 hcx rfl) fun K hK => ?_
  simp only [go_sem, Nat.reduceLT, Nat.reduceBNe, Nat.reduceBEq, Nat.reduceEqDiff, Nat.reduceAdd, Nat.reduceSub, Nat.reduceLeDiff, Int.reduceLE, Int.reduceLT, Int.reduceToNat, Int.reduceNeg, Int.reduceEq, ↓reduceIte, reduceCtorEq]
  refine hK _ ?_
  clear hK K
  repeat refine ats_seq ?_
  first | refine ats_ifn (p := _) rfl trivial (fun hl => ?_) (fun hl => ?_) | refine ats_ifp (p := _) rfl trivial (fun hl => ?_) (fun hl => ?_) | refine ats_cond rfl trivial (fun hl => ?_) (fun hl => ?_)
  · repeat refine ats_seq ?_
    refine ats_go (by first | exact fix0 hcx | exact fix1 hcx rfl) fun K hK => ?_
    simp only [go_sem, Nat.reduceLT, Nat.reduceBNe, Nat.reduceBEq, Nat.reduceEqDiff, Nat.reduceAdd, Nat.reduceSub, Nat.reduceLeDiff, Int.reduceLE, Int.reduceLT, Int.reduceToNat, Int.reduceNeg, Int.reduceEq, ↓reduceIte, reduceCtorEq]
    refine hK _ ?_
    clear hK K
    refine ats_ret (finB rfl ?_)
    exact (bd_false (fun h => hl (by rw [h.1]))).symm
  · refine ats_skip ?_
    repeat refine ats_seq ?_
    refine ats_go (by first | exact fix0 hcx | exact fix1 hcx rfl) fun K hK => ?_
    simp only [go_sem, Nat.reduceLT, Nat.reduceBNe, Nat.reduceBEq, Nat.reduceEqDiff, Nat.reduceAdd, Nat.reduceSub, Nat.reduceLeDiff, Int.reduceLE, Int.reduceLT, Int.reduceToNat, Int.reduceNeg, Int.reduceEq, ↓reduceIte, reduceCtorEq]
    repeat refine And.intro (by first | omega | (intro hq; first | omega | (simp only [decide_eq_false_iff_not, decide_eq_true_eq, Bool.not_eq_false', Bool.not_eq_true'] at hq; omega))) ?_
    refine hK _ ?_
    clear hK K
    repeat refine ats_seq ?_
    refine ats_go (by first | exact fix0 hcx | exact fix1 hcx rfl) fun K hK => ?_
    simp only [go_sem, Nat.reduceLT, Nat.reduceBNe, Nat.reduceBEq, Nat.reduceEqDiff, Nat.reduceAdd, Nat.reduceSub, Nat.reduceLeDiff, Int.reduceLE, Int.reduceLT, Int.reduceToNat, Int.reduceNeg, Int.reduceEq, ↓reduceIte, reduceCtorEq]
    refine hK _ ?_
    clear hK K
    repeat refine ats_seq ?_
    refine ats_loop (fun i : Nat => ⟨[(5, .bptr 2 0), (21, .l3 a), (22, .int a.length), (23, .int i)], [(0, .bx [.l3 t]), (1, .bx [.l3 a]), (2, .bx [.int (a.getD 0 []).length])]⟩) (fun i => i ≤ a.length ∧ ∀ b, b < i → MatOk (a.getD 0 []).length (a.getD b [])) (fun i => a.length - i) 0 ⟨Nat.zero_le _, fun a h => absurd h (Nat.not_lt_zero a)⟩ (by refine And.intro ?_ rfl; simp only [SlotsLe, St.get, slotGet, Nat.reduceEqDiff, ↓reduceIte, AV.int.injEq, AV.bool.injEq, AV.l1.injEq, AV.l2.injEq, AV.l3.injEq, true_and, and_true]; rfl) (fun i hi => ?_)
    obtain ⟨hi, Hi⟩ := hi
    repeat refine ats_seq ?_
    refine ats_go (by first | exact fix0 hcx | exact fix1 hcx rfl) fun K hK => ?_
    simp only [go_sem, Nat.reduceLT, Nat.reduceBNe, Nat.reduceBEq, Nat.reduceEqDiff, Nat.reduceAdd, Nat.reduceSub, Nat.reduceLeDiff, Int.reduceLE, Int.reduceLT, Int.reduceToNat, Int.reduceNeg, Int.reduceEq, ↓reduceIte, reduceCtorEq]
    refine hK _ ?_
    clear hK K
    repeat refine ats_seq ?_
    first | refine ats_ifn (p := _) rfl trivial (fun h1 => ?_) (fun h1 => ?_) | refine ats_ifp (p := _) rfl trivial (fun h1 => ?_) (fun h1 => ?_) | refine ats_cond rfl trivial (fun h1 => ?_) (fun h1 => ?_)
    · refine ats_skip ?_
      repeat refine ats_seq ?_
      refine ats_block ?_
      repeat refine ats_seq ?_
      refine ats_go (by first | exact fix0 hcx | exact fix1 hcx rfl) fun K hK => ?_
      simp only [go_sem, Nat.reduceLT, Nat.reduceBNe, Nat.reduceBEq, Nat.reduceEqDiff, Nat.reduceAdd, Nat.reduceSub, Nat.reduceLeDiff, Int.reduceLE, Int.reduceLT, Int.reduceToNat, Int.reduceNeg, Int.reduceEq, ↓reduceIte, reduceCtorEq]
      repeat refine And.intro (by first | omega | (intro hq; first | omega | (simp only [decide_eq_false_iff_not, decide_eq_true_eq, Bool.not_eq_false', Bool.not_eq_true'] at hq; omega))) ?_
      refine hK _ ?_
      clear hK K
      repeat refine ats_seq ?_
      refine ats_go (by first | exact fix0 hcx | exact fix1 hcx rfl) fun K hK => ?_
      simp only [go_sem, Nat.reduceLT, Nat.reduceBNe, Nat.reduceBEq, Nat.reduceEqDiff, Nat.reduceAdd, Nat.reduceSub, Nat.reduceLeDiff, Int.reduceLE, Int.reduceLT, Int.reduceToNat, Int.reduceNeg, Int.reduceEq, ↓reduceIte, reduceCtorEq]
      first | refine YR_intro (fun _ => acall_free rfl rfl (containsF2_ok (a.getD i []) 128 [.cptr [.int (a.getD 0 []).length] 0] (rowBad (a.getD 0 []).length) rfl (fun r => isFamily1_ok r _))) ?_ | refine YR_intro (acall_free rfl rfl (containsF2_ok (a.getD i []) 128 [.cptr [.int (a.getD 0 []).length] 0] (rowBad (a.getD 0 []).length) rfl (fun r => isFamily1_ok r _))) ?_
      simp only [go_sem, Nat.reduceLT, Nat.reduceBNe, Nat.reduceBEq, Nat.reduceEqDiff, Nat.reduceAdd, Nat.reduceSub, Nat.reduceLeDiff, Int.reduceLE, Int.reduceLT, Int.reduceToNat, Int.reduceNeg, Int.reduceEq, ↓reduceIte, reduceCtorEq]
      refine hK _ ?_
      clear hK K
      repeat refine ats_seq ?_
      first | refine ats_ifn (p := _) rfl trivial (fun h2 => ?_) (fun h2 => ?_) | refine ats_ifp (p := _) rfl trivial (fun h2 => ?_) (fun h2 => ?_) | refine ats_cond rfl trivial (fun h2 => ?_) (fun h2 => ?_)
      · repeat refine ats_seq ?_
        refine ats_go (by first | exact fix0 hcx | exact fix1 hcx rfl) fun K hK => ?_
        simp only [go_sem, Nat.reduceLT, Nat.reduceBNe, Nat.reduceBEq, Nat.reduceEqDiff, Nat.reduceAdd, Nat.reduceSub, Nat.reduceLeDiff, Int.reduceLE, Int.reduceLT, Int.reduceToNat, Int.reduceNeg, Int.reduceEq, ↓reduceIte, reduceCtorEq]
        refine hK _ ?_
        clear hK K
        refine ats_ret (finB rfl ?_)
        refine (bd_false fun hf => ?_).symm
        have hm := matOk_iff.1 (hf.2.2.2.2 i (by omega))
        rw [hm.2, hm.1] at h2
        simp at h2
      · simp only [Bool.or_eq_false_iff, Bool.not_eq_false', decide_eq_true_eq, Int.natCast_inj] at h2
        have hm := matOk_iff.2 h2
        refine ats_skip ?_
        repeat refine ats_seq ?_
        refine ats_go (by first | exact fix0 hcx | exact fix1 hcx rfl) fun K hK => ?_
        simp only [go_sem, Nat.reduceLT, Nat.reduceBNe, Nat.reduceBEq, Nat.reduceEqDiff, Nat.reduceAdd, Nat.reduceSub, Nat.reduceLeDiff, Int.reduceLE, Int.reduceLT, Int.reduceToNat, Int.reduceNeg, Int.reduceEq, ↓reduceIte, reduceCtorEq]
        repeat refine And.intro (by first | omega | (intro hq; first | omega | (simp only [decide_eq_false_iff_not, decide_eq_true_eq, Bool.not_eq_false', Bool.not_eq_true'] at hq; omega))) ?_
        refine hK _ ?_
        clear hK K
        refine ⟨i + 1, ⟨by omega, fun a ha => by rcases Nat.lt_succ_iff_lt_or_eq.1 ha with h | rfl; exact Hi a h; exact hm⟩, by omega, .inl ⟨?_, rfl⟩⟩
        simp only [SlotsLe, St.get, slotGet, Nat.reduceEqDiff, ↓reduceIte, AV.int.injEq, AV.bool.injEq, AV.l1.injEq, AV.l2.injEq, AV.l3.injEq, true_and, and_true]
        omega
    · refine ats_exit (lq_x ?_)
      repeat refine ats_seq ?_
      refine ats_go (by first | exact fix0 hcx | exact fix1 hcx rfl) fun K hK => ?_
      simp only [go_sem, Nat.reduceLT, Nat.reduceBNe, Nat.reduceBEq, Nat.reduceEqDiff, Nat.reduceAdd, Nat.reduceSub, Nat.reduceLeDiff, Int.reduceLE, Int.reduceLT, Int.reduceToNat, Int.reduceNeg, Int.reduceEq, ↓reduceIte, reduceCtorEq]
      refine hK _ ?_
      clear hK K
      refine ats_ret (finB rfl ?_)
      by_cases hc : 1 ≤ (a.getD 0 []).length ∧ (a.getD 0 []).length ≤ 16
      · rw [bd_true ⟨by omega, by omega, hc.1, hc.2, fun i hi => Hi i (by omega)⟩]
        simp only [Bool.and_eq_true, decide_eq_true_eq]; omega
      · rw [bd_false fun h => hc ⟨h.2.2.1, h.2.2.2.1⟩]
        simp only [Bool.and_eq_false_iff, decide_eq_false_iff_not]; omega
end Go.Proofs.Ytomfedhhfcelkaa
