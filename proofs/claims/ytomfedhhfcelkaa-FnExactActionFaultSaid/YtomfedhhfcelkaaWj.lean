import Derived.Test.YtomfedhhfcelkaaWi
set_option linter.unusedSimpArgs false
set_option linter.unusedVariables false
namespace Go.Proofs.Ytomfedhhfcelkaa
open Go Go.Aw Go.Pl

set_option maxHeartbeats 2000000 in
theorem actionFault_ok (t a : List (List (List Int))) (hc : Cube t) (hn : faultF t = none) (hf : Fam t a) (hP : ∀ i j, i < t.length → j < t.length → (sumM t a i j = prodM (a.getD i []) (a.getD j []) (a.getD 0 []).length ↔ ProdOk t a i j)) : FreshCall Try.prog 74 [.agg [.l3 t], .agg [.l3 a]] (optA (actF t a)) := by
  have h16 := hc.2.1
  have h1 := hc.1
  have hm1 := hf.2.2.1
  have hm16 := hf.2.2.2.1
  have hat := hf.1
  have hd := faultF_dual hn
  have hdl := ds_length t
  have hz := zeros_ok (a.getD 0 []).length (a.getD 0 []).length (by omega) (by omega)
  rw [zeros_matF] at hz
  refine FreshCall.intro (n := 134) (rs := [.tmp 4]) Try.call74 Try.func74 rfl rfl rfl (by simp only [List.length_cons, List.length_nil]; omega) (fun cx hcx => ats_of ?_)
  simp only [argSlots, Nat.zero_add, Nat.reduceAdd]
  repeat refine ats_seq ?_
  refine ats_go (by first | exact fix0 hcx | exact fix1 hcx rfl) fun K hK => ?_
  simp only [go_sem, Nat.reduceLT, Nat.reduceBNe, Nat.reduceBEq, Nat.reduceEqDiff, Nat.reduceAdd, Nat.reduceSub, Nat.reduceLeDiff, Int.reduceLE, Int.reduceLT, Int.reduceToNat, Int.reduceNeg, Int.reduceEq, ↓reduceIte, reduceCtorEq]
  refine hK _ ?_
  clear hK K
  repeat refine ats_seq ?_
  refine ats_go (by first | exact fix0 hcx | exact fix1 hcx rfl) fun K hK => ?_
  simp only [go_sem, Nat.reduceLT, Nat.reduceBNe, Nat.reduceBEq, Nat.reduceEqDiff, Nat.reduceAdd, Nat.reduceSub, Nat.reduceLeDiff, Int.reduceLE, Int.reduceLT, Int.reduceToNat, Int.reduceNeg, Int.reduceEq, ↓reduceIte, reduceCtorEq]
  repeat refine And.intro (by first | omega | (intro hq; first | omega | (simp only [decide_eq_false_iff_not, decide_eq_true_eq, Bool.not_eq_false', Bool.not_eq_true'] at hq; omega))) ?_
  refine hK _ ?_
  clear hK K
  repeat refine ats_seq ?_
  refine ats_pick (fix0 hcx) mixed (by kernel_rfl) fun K hK => ?_
  simp only [go_sem, Nat.reduceLT, Nat.reduceBNe, Nat.reduceBEq, Nat.reduceEqDiff, Nat.reduceAdd, Nat.reduceSub, Nat.reduceLeDiff, Int.reduceLE, Int.reduceLT, Int.reduceToNat, Int.reduceNeg, Int.reduceEq, ↓reduceIte, reduceCtorEq]
  repeat refine And.intro (by first | omega | (intro hq; first | omega | (simp only [decide_eq_false_iff_not, decide_eq_true_eq, Bool.not_eq_false', Bool.not_eq_true'] at hq; omega))) ?_
  first | refine fcall_fresh rfl (unitMatrix_ok (a.getD 0 []).length (by omega)) ?_ | refine YR_intro (acall_fresh rfl (unitMatrix_ok (a.getD 0 []).length (by omega))) ?_
  simp only [go_sem, Nat.reduceLT, Nat.reduceBNe, Nat.reduceBEq, Nat.reduceEqDiff, Nat.reduceAdd, Nat.reduceSub, Nat.reduceLeDiff, Int.reduceLE, Int.reduceLT, Int.reduceToNat, Int.reduceNeg, Int.reduceEq, ↓reduceIte, reduceCtorEq]
  first | refine fcall_data (equalRows_ok _ _) rfl ?_ | refine YR_intro (acall_data (equalRows_ok _ _) rfl) ?_
  simp only [go_sem, Nat.reduceLT, Nat.reduceBNe, Nat.reduceBEq, Nat.reduceEqDiff, Nat.reduceAdd, Nat.reduceSub, Nat.reduceLeDiff, Int.reduceLE, Int.reduceLT, Int.reduceToNat, Int.reduceNeg, Int.reduceEq, ↓reduceIte, reduceCtorEq]
  refine hK _ ?_
  clear hK K
  repeat refine ats_seq ?_
  first | refine ats_ifn (p := _) rfl trivial (fun hA => ?_) (fun hA => ?_) | refine ats_ifp (p := _) rfl trivial (fun hA => ?_) (fun hA => ?_) | refine ats_cond rfl trivial (fun hA => ?_) (fun hA => ?_)
  · repeat refine ats_seq ?_
    refine ats_go (by first | exact fix0 hcx | exact fix1 hcx rfl) fun K hK => ?_
    simp only [go_sem, Nat.reduceLT, Nat.reduceBNe, Nat.reduceBEq, Nat.reduceEqDiff, Nat.reduceAdd, Nat.reduceSub, Nat.reduceLeDiff, Int.reduceLE, Int.reduceLT, Int.reduceToNat, Int.reduceNeg, Int.reduceEq, ↓reduceIte, reduceCtorEq]
    refine hK _ ?_
    clear hK K
    have e : actF t a = some [0] := by simp only [actF, actA, if_neg hA, orE]
    exact ats_ret (ownV (is := [2]) rfl ⟨rfl, trivial⟩ (by rw [e]; rfl) (by simp))
  · have eA : actA a = none := if_pos hA
    refine ats_skip ?_
    repeat refine ats_seq ?_
    refine ats_go (by first | exact fix0 hcx | exact fix1 hcx rfl) fun K hK => ?_
    simp only [go_sem, Nat.reduceLT, Nat.reduceBNe, Nat.reduceBEq, Nat.reduceEqDiff, Nat.reduceAdd, Nat.reduceSub, Nat.reduceLeDiff, Int.reduceLE, Int.reduceLT, Int.reduceToNat, Int.reduceNeg, Int.reduceEq, ↓reduceIte, reduceCtorEq]
    refine hK _ ?_
    clear hK K
    repeat refine ats_seq ?_
    refine ats_loop (fun i : Nat => ⟨[(2, .bptr 0 0), (3, .bptr 1 0), (5, .int (a.getD 0 []).length), (34, .l3 a), (35, .int a.length), (36, .int i)], [(0, .bx [.l3 t]), (1, .bx [.l3 a])]⟩) (fun i => i ≤ a.length ∧ ∀ b, b < i → first t.length (actG t a b) = none) (fun i => a.length - i) 0 ⟨Nat.zero_le _, fun a h => absurd h (Nat.not_lt_zero a)⟩ (by refine And.intro ?_ rfl; simp only [SlotsLe, St.get, slotGet, Nat.reduceEqDiff, ↓reduceIte, AV.int.injEq, AV.bool.injEq, AV.l1.injEq, AV.l2.injEq, AV.l3.injEq, true_and, and_true]; rfl) (fun i hi => ?_)
    obtain ⟨hi, Hi⟩ := hi
    repeat refine ats_seq ?_
    refine ats_go (by first | exact fix0 hcx | exact fix1 hcx rfl) fun K hK => ?_
    simp only [go_sem, Nat.reduceLT, Nat.reduceBNe, Nat.reduceBEq, Nat.reduceEqDiff, Nat.reduceAdd, Nat.reduceSub, Nat.reduceLeDiff, Int.reduceLE, Int.reduceLT, Int.reduceToNat, Int.reduceNeg, Int.reduceEq, ↓reduceIte, reduceCtorEq]
    refine hK _ ?_
    clear hK K
    repeat refine ats_seq ?_
    first | refine ats_ifn (p := _) rfl trivial (fun hli => ?_) (fun hli => ?_) | refine ats_ifp (p := _) rfl trivial (fun hli => ?_) (fun hli => ?_) | refine ats_cond rfl trivial (fun hli => ?_) (fun hli => ?_)
    · refine ats_skip ?_
      repeat refine ats_seq ?_
      refine ats_block ?_
      repeat refine ats_seq ?_
      refine ats_go (by first | exact fix0 hcx | exact fix1 hcx rfl) fun K hK => ?_
      simp only [go_sem, Nat.reduceLT, Nat.reduceBNe, Nat.reduceBEq, Nat.reduceEqDiff, Nat.reduceAdd, Nat.reduceSub, Nat.reduceLeDiff, Int.reduceLE, Int.reduceLT, Int.reduceToNat, Int.reduceNeg, Int.reduceEq, ↓reduceIte, reduceCtorEq]
      repeat refine And.intro (by first | omega | (intro hq; first | omega | (simp only [decide_eq_false_iff_not, decide_eq_true_eq, Bool.not_eq_false', Bool.not_eq_true'] at hq; omega))) ?_
      refine hK _ ?_
      clear hK K
      repeat refine ats_seq ?_
      refine ats_go (by first | exact fix0 hcx | exact fix1 hcx rfl) fun K hK => ?_
      simp only [go_sem, Nat.reduceLT, Nat.reduceBNe, Nat.reduceBEq, Nat.reduceEqDiff, Nat.reduceAdd, Nat.reduceSub, Nat.reduceLeDiff, Int.reduceLE, Int.reduceLT, Int.reduceToNat, Int.reduceNeg, Int.reduceEq, ↓reduceIte, reduceCtorEq]
      refine hK _ ?_
      clear hK K
      repeat refine ats_seq ?_
      refine ats_loop (fun j : Nat => ⟨[(2, .bptr 0 0), (3, .bptr 1 0), (5, .int (a.getD 0 []).length), (34, .l3 a), (35, .int a.length), (36, .int i), (6, .int i), (7, .l2 (a.getD i [])), (42, .l3 a), (43, .int a.length), (44, .int j)], [(0, .bx [.l3 t]), (1, .bx [.l3 a])]⟩) (fun j => j ≤ a.length ∧ ∀ b, b < j → actG t a i b = none) (fun j => a.length - j) 0 ⟨Nat.zero_le _, fun a h => absurd h (Nat.not_lt_zero a)⟩ (by refine And.intro ?_ rfl; simp only [SlotsLe, St.get, slotGet, Nat.reduceEqDiff, ↓reduceIte, AV.int.injEq, AV.bool.injEq, AV.l1.injEq, AV.l2.injEq, AV.l3.injEq, true_and, and_true]; rfl) (fun j hj => ?_)
      obtain ⟨hj, Hj⟩ := hj
      repeat refine ats_seq ?_
      refine ats_go (by first | exact fix0 hcx | exact fix1 hcx rfl) fun K hK => ?_
      simp only [go_sem, Nat.reduceLT, Nat.reduceBNe, Nat.reduceBEq, Nat.reduceEqDiff, Nat.reduceAdd, Nat.reduceSub, Nat.reduceLeDiff, Int.reduceLE, Int.reduceLT, Int.reduceToNat, Int.reduceNeg, Int.reduceEq, ↓reduceIte, reduceCtorEq]
      refine hK _ ?_
      clear hK K
      repeat refine ats_seq ?_
      first | refine ats_ifn (p := _) rfl trivial (fun hlj => ?_) (fun hlj => ?_) | refine ats_ifp (p := _) rfl trivial (fun hlj => ?_) (fun hlj => ?_) | refine ats_cond rfl trivial (fun hlj => ?_) (fun hlj => ?_)
      · have mti := hc.mat (show i < t.length by omega)
        have rij := hc.row (show i < t.length by omega) (show j < t.length by omega)
        refine ats_skip ?_
        repeat refine ats_seq ?_
        refine ats_block ?_
        repeat refine ats_seq ?_
        refine ats_go (by first | exact fix0 hcx | exact fix1 hcx rfl) fun K hK => ?_
        simp only [go_sem, Nat.reduceLT, Nat.reduceBNe, Nat.reduceBEq, Nat.reduceEqDiff, Nat.reduceAdd, Nat.reduceSub, Nat.reduceLeDiff, Int.reduceLE, Int.reduceLT, Int.reduceToNat, Int.reduceNeg, Int.reduceEq, ↓reduceIte, reduceCtorEq]
        repeat refine And.intro (by first | omega | (intro hq; first | omega | (simp only [decide_eq_false_iff_not, decide_eq_true_eq, Bool.not_eq_false', Bool.not_eq_true'] at hq; omega))) ?_
        refine hK _ ?_
        clear hK K
        repeat refine ats_seq ?_
        refine ats_go (by first | exact fix0 hcx | exact fix1 hcx rfl) fun K hK => ?_
        simp only [go_sem, Nat.reduceLT, Nat.reduceBNe, Nat.reduceBEq, Nat.reduceEqDiff, Nat.reduceAdd, Nat.reduceSub, Nat.reduceLeDiff, Int.reduceLE, Int.reduceLT, Int.reduceToNat, Int.reduceNeg, Int.reduceEq, ↓reduceIte, reduceCtorEq]
        refine fcall_own rfl (hz) rfl ?_
        simp only [go_sem, Nat.reduceLT, Nat.reduceBNe, Nat.reduceBEq, Nat.reduceEqDiff, Nat.reduceAdd, Nat.reduceSub, Nat.reduceLeDiff, Int.reduceLE, Int.reduceLT, Int.reduceToNat, Int.reduceNeg, Int.reduceEq, ↓reduceIte, reduceCtorEq]
        refine hK _ ?_
        clear hK K
        repeat refine ats_seq ?_
        refine ats_go (by first | exact fix0 hcx | exact fix1 hcx rfl) fun K hK => ?_
        simp only [go_sem, Nat.reduceLT, Nat.reduceBNe, Nat.reduceBEq, Nat.reduceEqDiff, Nat.reduceAdd, Nat.reduceSub, Nat.reduceLeDiff, Int.reduceLE, Int.reduceLT, Int.reduceToNat, Int.reduceNeg, Int.reduceEq, ↓reduceIte, reduceCtorEq]
        simp only [mti, rij]
        repeat refine And.intro (by first | omega | (intro hq; first | omega | (simp only [decide_eq_false_iff_not, decide_eq_true_eq, Bool.not_eq_false', Bool.not_eq_true'] at hq; omega))) ?_
        refine hK _ ?_
        clear hK K
        have hac : ∀ k x y p q, acF t a i j k x y p q = sumTo (prR t a i j p q) k + (if p < x ∨ (p = x ∧ q < y) then prR t a i j p q k else 0) := fun _ _ _ _ _ => rfl
        repeat refine ats_seq ?_
        refine ats_loop (fun k : Nat => ⟨[(2, .bptr 0 0), (3, .bptr 1 0), (5, .int (a.getD 0 []).length), (34, .l3 a), (35, .int a.length), (36, .int i), (6, .int i), (7, .l2 (a.getD i [])), (42, .l3 a), (43, .int a.length), (44, .int j), (8, .int j), (9, .l2 (a.getD j [])), (10, .ref 2 []), (59, .l1 ((t.getD i []).getD j [])), (60, .int t.length), (61, .int k)], [(2, .t2 (matF (a.getD 0 []).length (a.getD 0 []).length (acF t a i j k 0 0))), (0, .bx [.l3 t]), (1, .bx [.l3 a])]⟩) (fun k => k ≤ t.length) (fun k => t.length - k) 0 (Nat.zero_le _) (by
          refine And.intro ?_ (by
            simp only [List.cons_append, List.nil_append]
            rw [show matF (a.getD 0 []).length (a.getD 0 []).length (acF t a i j 0 0 0) = matF (a.getD 0 []).length (a.getD 0 []).length (fun _ _ => 0) from matF_congr fun x _ y _ => by rw [hac, if_neg (by omega)]; simp [sumTo]])
          simp only [SlotsLe, St.get, slotGet, Nat.reduceEqDiff, ↓reduceIte, true_and, and_true, AV.int.injEq]
          rfl) (fun k hk => ?_)
        repeat refine ats_seq ?_
        refine ats_go (by first | exact fix0 hcx | exact fix1 hcx rfl) fun K hK => ?_
        simp only [go_sem, Nat.reduceLT, Nat.reduceBNe, Nat.reduceBEq, Nat.reduceEqDiff, Nat.reduceAdd, Nat.reduceSub, Nat.reduceLeDiff, Int.reduceLE, Int.reduceLT, Int.reduceToNat, Int.reduceNeg, Int.reduceEq, ↓reduceIte, reduceCtorEq]
        refine hK _ ?_
        clear hK K
        repeat refine ats_seq ?_
        first | refine ats_ifn (p := _) rfl trivial (fun hlk => ?_) (fun hlk => ?_) | refine ats_ifp (p := _) rfl trivial (fun hlk => ?_) (fun hlk => ?_) | refine ats_cond rfl trivial (fun hlk => ?_) (fun hlk => ?_)
        · have mk := hf.mat (show k < a.length by omega)
          refine ats_skip ?_
          repeat refine ats_seq ?_
          refine ats_block ?_
          repeat refine ats_seq ?_
          refine ats_go (by first | exact fix0 hcx | exact fix1 hcx rfl) fun K hK => ?_
          simp only [go_sem, Nat.reduceLT, Nat.reduceBNe, Nat.reduceBEq, Nat.reduceEqDiff, Nat.reduceAdd, Nat.reduceSub, Nat.reduceLeDiff, Int.reduceLE, Int.reduceLT, Int.reduceToNat, Int.reduceNeg, Int.reduceEq, ↓reduceIte, reduceCtorEq]
          repeat refine And.intro (by first | omega | (intro hq; first | omega | (simp only [decide_eq_false_iff_not, decide_eq_true_eq, Bool.not_eq_false', Bool.not_eq_true'] at hq; omega))) ?_
          refine hK _ ?_
          clear hK K
          repeat refine ats_seq ?_
          refine ats_go (by first | exact fix0 hcx | exact fix1 hcx rfl) fun K hK => ?_
          simp only [go_sem, Nat.reduceLT, Nat.reduceBNe, Nat.reduceBEq, Nat.reduceEqDiff, Nat.reduceAdd, Nat.reduceSub, Nat.reduceLeDiff, Int.reduceLE, Int.reduceLT, Int.reduceToNat, Int.reduceNeg, Int.reduceEq, ↓reduceIte, reduceCtorEq]
          repeat refine And.intro (by first | omega | (intro hq; first | omega | (simp only [decide_eq_false_iff_not, decide_eq_true_eq, Bool.not_eq_false', Bool.not_eq_true'] at hq; omega))) ?_
          refine hK _ ?_
          clear hK K
          simp only [mk]
          repeat refine ats_seq ?_
          refine ats_loop (fun x : Nat => ⟨[(2, .bptr 0 0), (3, .bptr 1 0), (5, .int (a.getD 0 []).length), (34, .l3 a), (35, .int a.length), (36, .int i), (6, .int i), (7, .l2 (a.getD i [])), (42, .l3 a), (43, .int a.length), (44, .int j), (8, .int j), (9, .l2 (a.getD j [])), (10, .ref 2 []), (59, .l1 ((t.getD i []).getD j [])), (60, .int t.length), (61, .int k), (11, .int k), (12, .int (((t.getD i []).getD j []).getD k 0)), (70, .l2 (a.getD k [])), (71, .int (a.getD 0 []).length), (72, .int x)], [(2, .t2 (matF (a.getD 0 []).length (a.getD 0 []).length (acF t a i j k x 0))), (0, .bx [.l3 t]), (1, .bx [.l3 a])]⟩) (fun x => x ≤ (a.getD 0 []).length) (fun x => (a.getD 0 []).length - x) 0 (Nat.zero_le _) (by
            refine And.intro ?_ rfl
            simp only [SlotsLe, St.get, slotGet, Nat.reduceEqDiff, ↓reduceIte, true_and, and_true, AV.int.injEq]
            rfl) (fun x hx => ?_)
          repeat refine ats_seq ?_
          refine ats_go (by first | exact fix0 hcx | exact fix1 hcx rfl) fun K hK => ?_
          simp only [go_sem, Nat.reduceLT, Nat.reduceBNe, Nat.reduceBEq, Nat.reduceEqDiff, Nat.reduceAdd, Nat.reduceSub, Nat.reduceLeDiff, Int.reduceLE, Int.reduceLT, Int.reduceToNat, Int.reduceNeg, Int.reduceEq, ↓reduceIte, reduceCtorEq]
          refine hK _ ?_
          clear hK K
          repeat refine ats_seq ?_
          first | refine ats_ifn (p := _) rfl trivial (fun hlx => ?_) (fun hlx => ?_) | refine ats_ifp (p := _) rfl trivial (fun hlx => ?_) (fun hlx => ?_) | refine ats_cond rfl trivial (fun hlx => ?_) (fun hlx => ?_)
          · have rkx := hf.row (show k < a.length by omega) (show x < (a.getD 0 []).length by omega)
            refine ats_skip ?_
            repeat refine ats_seq ?_
            refine ats_block ?_
            repeat refine ats_seq ?_
            refine ats_go (by first | exact fix0 hcx | exact fix1 hcx rfl) fun K hK => ?_
            simp only [go_sem, Nat.reduceLT, Nat.reduceBNe, Nat.reduceBEq, Nat.reduceEqDiff, Nat.reduceAdd, Nat.reduceSub, Nat.reduceLeDiff, Int.reduceLE, Int.reduceLT, Int.reduceToNat, Int.reduceNeg, Int.reduceEq, ↓reduceIte, reduceCtorEq]
            repeat refine And.intro (by first | omega | (intro hq; first | omega | (simp only [decide_eq_false_iff_not, decide_eq_true_eq, Bool.not_eq_false', Bool.not_eq_true'] at hq; omega))) ?_
            refine hK _ ?_
            clear hK K
            repeat refine ats_seq ?_
            refine ats_go (by first | exact fix0 hcx | exact fix1 hcx rfl) fun K hK => ?_
            simp only [go_sem, Nat.reduceLT, Nat.reduceBNe, Nat.reduceBEq, Nat.reduceEqDiff, Nat.reduceAdd, Nat.reduceSub, Nat.reduceLeDiff, Int.reduceLE, Int.reduceLT, Int.reduceToNat, Int.reduceNeg, Int.reduceEq, ↓reduceIte, reduceCtorEq]
            refine hK _ ?_
            clear hK K
            simp only [rkx]
            repeat refine ats_seq ?_
            refine ats_loop (fun y : Nat => ⟨[(2, .bptr 0 0), (3, .bptr 1 0), (5, .int (a.getD 0 []).length), (34, .l3 a), (35, .int a.length), (36, .int i), (6, .int i), (7, .l2 (a.getD i [])), (42, .l3 a), (43, .int a.length), (44, .int j), (8, .int j), (9, .l2 (a.getD j [])), (10, .ref 2 []), (59, .l1 ((t.getD i []).getD j [])), (60, .int t.length), (61, .int k), (11, .int k), (12, .int (((t.getD i []).getD j []).getD k 0)), (70, .l2 (a.getD k [])), (71, .int (a.getD 0 []).length), (72, .int x), (13, .int x), (77, .l1 ((a.getD k []).getD x [])), (78, .int (a.getD 0 []).length), (79, .int y)], [(2, .t2 (matF (a.getD 0 []).length (a.getD 0 []).length (acF t a i j k x y))), (0, .bx [.l3 t]), (1, .bx [.l3 a])]⟩) (fun y => y ≤ (a.getD 0 []).length) (fun y => (a.getD 0 []).length - y) 0 (Nat.zero_le _) (by
              refine And.intro ?_ rfl
              simp only [SlotsLe, St.get, slotGet, Nat.reduceEqDiff, ↓reduceIte, true_and, and_true, AV.int.injEq]
              rfl) (fun y hy => ?_)
            repeat refine ats_seq ?_
            refine ats_go (by first | exact fix0 hcx | exact fix1 hcx rfl) fun K hK => ?_
            simp only [go_sem, Nat.reduceLT, Nat.reduceBNe, Nat.reduceBEq, Nat.reduceEqDiff, Nat.reduceAdd, Nat.reduceSub, Nat.reduceLeDiff, Int.reduceLE, Int.reduceLT, Int.reduceToNat, Int.reduceNeg, Int.reduceEq, ↓reduceIte, reduceCtorEq]
            refine hK _ ?_
            clear hK K
            repeat refine ats_seq ?_
            first | refine ats_ifn (p := _) rfl trivial (fun hly => ?_) (fun hly => ?_) | refine ats_ifp (p := _) rfl trivial (fun hly => ?_) (fun hly => ?_) | refine ats_cond rfl trivial (fun hly => ?_) (fun hly => ?_)
            · have hg := matF_get (r := (a.getD 0 []).length) (c := (a.getD 0 []).length) (f := acF t a i j k x y) (show x < (a.getD 0 []).length by omega)
              have hg2 := rowF_get (c := (a.getD 0 []).length) (f := acF t a i j k x y x) (show y < (a.getD 0 []).length by omega)
              have bd := prR_bd hc hf (i := i) (j := j) (x := x) (y := y) (by omega) (by omega) (by omega) (by omega)
              have s1 := sumTo_le (n := k) (fun z hz => bd z (by omega))
              have b1 := bd k (by omega)
              have hv : acF t a i j k x y x y = sumTo (prR t a i j x y) k := by rw [hac, if_neg (by omega)]; omega
              have hstep : (matF (a.getD 0 []).length (a.getD 0 []).length (acF t a i j k x y)).set x ((rowF (a.getD 0 []).length (acF t a i j k x y x)).set y (sumTo (prR t a i j x y) k + ((t.getD i []).getD j []).getD k 0 * ((a.getD k []).getD x []).getD y 0)) = matF (a.getD 0 []).length (a.getD 0 []).length (acF t a i j k x (y + 1)) := by
                rw [← hg, matF_set (show x < (a.getD 0 []).length by omega)]
                refine matF_congr fun p hp q hq => ?_
                by_cases h1 : p = x ∧ q = y
                · obtain ⟨rfl, rfl⟩ := h1
                  rw [if_pos ⟨rfl, rfl⟩, hac, if_pos (by omega)]; rfl
                · rw [if_neg h1, hac, hac]
                  by_cases h2 : p < x ∨ (p = x ∧ q < y)
                  · rw [if_pos h2, if_pos (by omega)]
                  · rw [if_neg h2, if_neg (by omega)]
              simp only [prR, e3] at b1
              refine ats_skip ?_
              repeat refine ats_seq ?_
              refine ats_block ?_
              repeat refine ats_seq ?_
              refine ats_go (by first | exact fix0 hcx | exact fix1 hcx rfl) fun K hK => ?_
              simp only [go_sem, Nat.reduceLT, Nat.reduceBNe, Nat.reduceBEq, Nat.reduceEqDiff, Nat.reduceAdd, Nat.reduceSub, Nat.reduceLeDiff, Int.reduceLE, Int.reduceLT, Int.reduceToNat, Int.reduceNeg, Int.reduceEq, ↓reduceIte, reduceCtorEq]
              repeat refine And.intro (by first | omega | (intro hq; first | omega | (simp only [decide_eq_false_iff_not, decide_eq_true_eq, Bool.not_eq_false', Bool.not_eq_true'] at hq; omega))) ?_
              refine hK _ ?_
              clear hK K
              repeat refine ats_seq ?_
              refine ats_go (by first | exact fix0 hcx | exact fix1 hcx rfl) fun K hK => ?_
              simp only [go_sem, Nat.reduceLT, Nat.reduceBNe, Nat.reduceBEq, Nat.reduceEqDiff, Nat.reduceAdd, Nat.reduceSub, Nat.reduceLeDiff, Int.reduceLE, Int.reduceLT, Int.reduceToNat, Int.reduceNeg, Int.reduceEq, ↓reduceIte, reduceCtorEq]
              simp only [matF_length, hg, rowF_length, hg2, hv]
              repeat refine And.intro (by first | omega | (intro hq; first | omega | (simp only [decide_eq_false_iff_not, decide_eq_true_eq, Bool.not_eq_false', Bool.not_eq_true'] at hq; omega))) ?_
              refine hK _ ?_
              clear hK K
              repeat refine ats_seq ?_
              refine ats_go (by first | exact fix0 hcx | exact fix1 hcx rfl) fun K hK => ?_
              simp only [go_sem, Nat.reduceLT, Nat.reduceBNe, Nat.reduceBEq, Nat.reduceEqDiff, Nat.reduceAdd, Nat.reduceSub, Nat.reduceLeDiff, Int.reduceLE, Int.reduceLT, Int.reduceToNat, Int.reduceNeg, Int.reduceEq, ↓reduceIte, reduceCtorEq]
              repeat refine And.intro (by first | omega | (intro hq; first | omega | (simp only [decide_eq_false_iff_not, decide_eq_true_eq, Bool.not_eq_false', Bool.not_eq_true'] at hq; omega))) ?_
              refine hK _ ?_
              clear hK K
              refine ⟨y + 1,  by omega, by omega, .inl ⟨by simp only [SlotsLe, St.get, slotGet, Nat.reduceEqDiff, ↓reduceIte, AV.int.injEq, AV.bool.injEq, AV.l1.injEq, AV.l2.injEq, AV.l3.injEq, true_and, and_true]; omega,  by rw [hstep]⟩⟩
            · have ey : y = (a.getD 0 []).length := by omega
              have e : matF (a.getD 0 []).length (a.getD 0 []).length (acF t a i j k (x + 1) 0) = matF (a.getD 0 []).length (a.getD 0 []).length (acF t a i j k x y) := matF_congr fun p hp q hq => by
                rw [hac, hac]
                by_cases h2 : p < x ∨ (p = x ∧ q < y)
                · rw [if_pos h2, if_pos (by omega)]
                · rw [if_neg h2, if_neg (by omega)]
              refine ats_exit (lq_x (ats_nil (bq_n ?_)))
              repeat refine ats_seq ?_
              refine ats_go (by first | exact fix0 hcx | exact fix1 hcx rfl) fun K hK => ?_
              simp only [go_sem, Nat.reduceLT, Nat.reduceBNe, Nat.reduceBEq, Nat.reduceEqDiff, Nat.reduceAdd, Nat.reduceSub, Nat.reduceLeDiff, Int.reduceLE, Int.reduceLT, Int.reduceToNat, Int.reduceNeg, Int.reduceEq, ↓reduceIte, reduceCtorEq]
              repeat refine And.intro (by first | omega | (intro hq; first | omega | (simp only [decide_eq_false_iff_not, decide_eq_true_eq, Bool.not_eq_false', Bool.not_eq_true'] at hq; omega))) ?_
              refine hK _ ?_
              clear hK K
              refine ⟨x + 1,  by omega, by omega, .inl ⟨by simp only [SlotsLe, St.get, slotGet, Nat.reduceEqDiff, ↓reduceIte, AV.int.injEq, AV.bool.injEq, AV.l1.injEq, AV.l2.injEq, AV.l3.injEq, true_and, and_true]; omega,  by rw [e]⟩⟩
          · have ex : x = (a.getD 0 []).length := by omega
            have e : matF (a.getD 0 []).length (a.getD 0 []).length (acF t a i j (k + 1) 0 0) = matF (a.getD 0 []).length (a.getD 0 []).length (acF t a i j k x 0) := matF_congr fun p hp q hq => by
              rw [hac, hac, if_neg (by omega), if_pos (.inl (by omega))]; simp only [sumTo]; omega
            refine ats_exit (lq_x (ats_nil (bq_n ?_)))
            repeat refine ats_seq ?_
            refine ats_go (by first | exact fix0 hcx | exact fix1 hcx rfl) fun K hK => ?_
            simp only [go_sem, Nat.reduceLT, Nat.reduceBNe, Nat.reduceBEq, Nat.reduceEqDiff, Nat.reduceAdd, Nat.reduceSub, Nat.reduceLeDiff, Int.reduceLE, Int.reduceLT, Int.reduceToNat, Int.reduceNeg, Int.reduceEq, ↓reduceIte, reduceCtorEq]
            repeat refine And.intro (by first | omega | (intro hq; first | omega | (simp only [decide_eq_false_iff_not, decide_eq_true_eq, Bool.not_eq_false', Bool.not_eq_true'] at hq; omega))) ?_
            refine hK _ ?_
            clear hK K
            refine ⟨k + 1,  by omega, by omega, .inl ⟨by simp only [SlotsLe, St.get, slotGet, Nat.reduceEqDiff, ↓reduceIte, AV.int.injEq, AV.bool.injEq, AV.l1.injEq, AV.l2.injEq, AV.l3.injEq, true_and, and_true]; omega,  by rw [e]⟩⟩
        · have ek : k = t.length := by omega
          have e : matF (a.getD 0 []).length (a.getD 0 []).length (acF t a i j k 0 0) = sumM t a i j := matF_congr fun p hp q hq => by
            rw [hac, if_neg (by omega), ek]; omega
          rw [e]
          have mka := hf.2.2.2.2 i (by omega)
          have mkb := hf.2.2.2.2 j (by omega)
          have hPij := hP i j (by omega) (by omega)
          refine ats_exit (lq_x ?_)
          repeat refine ats_seq ?_
          refine ats_go (by first | exact fix0 hcx | exact fix1 hcx rfl) fun K hK => ?_
          simp only [go_sem, Nat.reduceLT, Nat.reduceBNe, Nat.reduceBEq, Nat.reduceEqDiff, Nat.reduceAdd, Nat.reduceSub, Nat.reduceLeDiff, Int.reduceLE, Int.reduceLT, Int.reduceToNat, Int.reduceNeg, Int.reduceEq, ↓reduceIte, reduceCtorEq]
          first | refine fcall_fresh rfl (whole_ok (a.getD i []) (a.getD j []) (a.getD 0 []).length hm1 hm16 mka mkb) ?_ | refine YR_intro (acall_fresh rfl (whole_ok (a.getD i []) (a.getD j []) (a.getD 0 []).length hm1 hm16 mka mkb)) ?_
          simp only [go_sem, Nat.reduceLT, Nat.reduceBNe, Nat.reduceBEq, Nat.reduceEqDiff, Nat.reduceAdd, Nat.reduceSub, Nat.reduceLeDiff, Int.reduceLE, Int.reduceLT, Int.reduceToNat, Int.reduceNeg, Int.reduceEq, ↓reduceIte, reduceCtorEq]
          first | refine fcall_free rfl rfl (equalRows_ok _ _) ?_ | refine YR_intro (acall_free rfl rfl (equalRows_ok _ _)) ?_
          simp only [go_sem, Nat.reduceLT, Nat.reduceBNe, Nat.reduceBEq, Nat.reduceEqDiff, Nat.reduceAdd, Nat.reduceSub, Nat.reduceLeDiff, Int.reduceLE, Int.reduceLT, Int.reduceToNat, Int.reduceNeg, Int.reduceEq, ↓reduceIte, reduceCtorEq]
          refine hK _ ?_
          clear hK K
          repeat refine ats_seq ?_
          first | refine ats_ifn (p := _) rfl trivial (fun h2 => ?_) (fun h2 => ?_) | refine ats_ifp (p := _) rfl trivial (fun h2 => ?_) (fun h2 => ?_) | refine ats_cond rfl trivial (fun h2 => ?_) (fun h2 => ?_)
          · have h2 := bd_false (fun h => h2 (hPij.2 h))
            repeat refine ats_seq ?_
            refine ats_go (by first | exact fix0 hcx | exact fix1 hcx rfl) fun K hK => ?_
            simp only [go_sem, Nat.reduceLT, Nat.reduceBNe, Nat.reduceBEq, Nat.reduceEqDiff, Nat.reduceAdd, Nat.reduceSub, Nat.reduceLeDiff, Int.reduceLE, Int.reduceLT, Int.reduceToNat, Int.reduceNeg, Int.reduceEq, ↓reduceIte, reduceCtorEq]
            refine hK _ ?_
            clear hK K
            have e1 : (first t.length fun i => first t.length (actG t a i)) = some [1, (i : Int), (j : Int)] := first_some (by omega) Hi (first_some (by omega) Hj (if_neg (by rw [h2]; decide)))
            have e : actF t a = some [1, (i : Int), (j : Int)] := by simp only [actF, eA, orE, e1]
            exact ats_ret (ownV (is := [3]) rfl ⟨rfl, trivial⟩ (by rw [e]; rfl) (by simp))
          · have h2 := bd_true (hPij.1 h2)
            refine ats_skip ?_
            repeat refine ats_seq ?_
            refine ats_go (by first | exact fix0 hcx | exact fix1 hcx rfl) fun K hK => ?_
            simp only [go_sem, Nat.reduceLT, Nat.reduceBNe, Nat.reduceBEq, Nat.reduceEqDiff, Nat.reduceAdd, Nat.reduceSub, Nat.reduceLeDiff, Int.reduceLE, Int.reduceLT, Int.reduceToNat, Int.reduceNeg, Int.reduceEq, ↓reduceIte, reduceCtorEq]
            repeat refine And.intro (by first | omega | (intro hq; first | omega | (simp only [decide_eq_false_iff_not, decide_eq_true_eq, Bool.not_eq_false', Bool.not_eq_true'] at hq; omega))) ?_
            refine hK _ ?_
            clear hK K
            refine ⟨j + 1, ⟨by omega, fun b hb => by rcases Nat.lt_succ_iff_lt_or_eq.1 hb with h | rfl; exact Hj b h; exact if_pos h2⟩, by omega, .inr ⟨[2], by simp only [killL, List.map_cons, List.map_nil, killA, killAs, qOf, rmT, killH, killT, List.filter_cons, List.filter_nil, List.contains_cons, List.contains_nil, SlotsLe, St.get, slotGet, Nat.reduceEqDiff, Nat.reduceBEq, Bool.or_false, Bool.or_true, Bool.false_and, Bool.not_true, Bool.not_false, Bool.false_eq_true, ↓reduceIte, if_true, if_false, AV.int.injEq, AV.bool.injEq, AV.l1.injEq, AV.l2.injEq, AV.l3.injEq, true_and, and_true]; omega, by simp only [killL, List.map_cons, List.map_nil, killA, killAs, qOf, rmT, killH, killT, List.filter_cons, List.filter_nil, List.contains_cons, List.contains_nil, SlotsLe, St.get, slotGet, Nat.reduceEqDiff, Nat.reduceBEq, Bool.or_false, Bool.or_true, Bool.false_and, Bool.not_true, Bool.not_false, Bool.false_eq_true, ↓reduceIte, if_true, if_false, AV.int.injEq, AV.bool.injEq, AV.l1.injEq, AV.l2.injEq, AV.l3.injEq, true_and, and_true]; skip⟩⟩
      · refine ats_exit (lq_x (ats_nil (bq_n ?_)))
        repeat refine ats_seq ?_
        refine ats_go (by first | exact fix0 hcx | exact fix1 hcx rfl) fun K hK => ?_
        simp only [go_sem, Nat.reduceLT, Nat.reduceBNe, Nat.reduceBEq, Nat.reduceEqDiff, Nat.reduceAdd, Nat.reduceSub, Nat.reduceLeDiff, Int.reduceLE, Int.reduceLT, Int.reduceToNat, Int.reduceNeg, Int.reduceEq, ↓reduceIte, reduceCtorEq]
        repeat refine And.intro (by first | omega | (intro hq; first | omega | (simp only [decide_eq_false_iff_not, decide_eq_true_eq, Bool.not_eq_false', Bool.not_eq_true'] at hq; omega))) ?_
        refine hK _ ?_
        clear hK K
        refine ⟨i + 1, ⟨by omega, fun a ha => by rcases Nat.lt_succ_iff_lt_or_eq.1 ha with h | rfl; exact Hi a h; exact first_none (fun k hk => Hj k (by omega))⟩, by omega, .inl ⟨?_, rfl⟩⟩
        simp only [SlotsLe, St.get, slotGet, Nat.reduceEqDiff, ↓reduceIte, AV.int.injEq, AV.bool.injEq, AV.l1.injEq, AV.l2.injEq, AV.l3.injEq, true_and, and_true]
        omega
    · have eG : (first t.length fun i => first t.length (actG t a i)) = none := first_none (fun i hi => Hi i (by omega))
      clear Hi
      refine ats_exit (lq_x ?_)
      repeat refine ats_seq ?_
      refine ats_go (by first | exact fix0 hcx | exact fix1 hcx rfl) fun K hK => ?_
      simp only [go_sem, Nat.reduceLT, Nat.reduceBNe, Nat.reduceBEq, Nat.reduceEqDiff, Nat.reduceAdd, Nat.reduceSub, Nat.reduceLeDiff, Int.reduceLE, Int.reduceLT, Int.reduceToNat, Int.reduceNeg, Int.reduceEq, ↓reduceIte, reduceCtorEq]
      first | refine fcall_fresh rfl (duals_ok t hc) ?_ | refine YR_intro (acall_fresh rfl (duals_ok t hc)) ?_
      simp only [go_sem, Nat.reduceLT, Nat.reduceBNe, Nat.reduceBEq, Nat.reduceEqDiff, Nat.reduceAdd, Nat.reduceSub, Nat.reduceLeDiff, Int.reduceLE, Int.reduceLT, Int.reduceToNat, Int.reduceNeg, Int.reduceEq, ↓reduceIte, reduceCtorEq]
      simp only [hdl]
      refine hK _ ?_
      clear hK K
      repeat refine ats_seq ?_
      refine ats_loop (fun i : Nat => ⟨[(3, .bptr 1 0), (111, .l1 (ds t)), (112, .int t.length), (113, .int i)], [(0, .bx [.l3 t]), (1, .bx [.l3 a])]⟩) (fun i => i ≤ t.length ∧ ∀ b, b < i → actH t a b = none) (fun i => t.length - i) 0 ⟨Nat.zero_le _, fun a h => absurd h (Nat.not_lt_zero a)⟩ (by refine And.intro ?_ rfl; simp only [SlotsLe, St.get, slotGet, Nat.reduceEqDiff, ↓reduceIte, AV.int.injEq, AV.bool.injEq, AV.l1.injEq, AV.l2.injEq, AV.l3.injEq, true_and, and_true]; rfl) (fun i hi => ?_)
      obtain ⟨hi, Hi⟩ := hi
      repeat refine ats_seq ?_
      refine ats_go (by first | exact fix0 hcx | exact fix1 hcx rfl) fun K hK => ?_
      simp only [go_sem, Nat.reduceLT, Nat.reduceBNe, Nat.reduceBEq, Nat.reduceEqDiff, Nat.reduceAdd, Nat.reduceSub, Nat.reduceLeDiff, Int.reduceLE, Int.reduceLT, Int.reduceToNat, Int.reduceNeg, Int.reduceEq, ↓reduceIte, reduceCtorEq]
      refine hK _ ?_
      clear hK K
      repeat refine ats_seq ?_
      first | refine ats_ifn (p := _) rfl trivial (fun hli => ?_) (fun hli => ?_) | refine ats_ifp (p := _) rfl trivial (fun hli => ?_) (fun hli => ?_) | refine ats_cond rfl trivial (fun hli => ?_) (fun hli => ?_)
      · have gi := ds_get (show i < t.length by omega)
        have di := dual_ok hd (show i < t.length by omega)
        have mi := hf.mat (show i < a.length by omega)
        have r0 := hf.row (show i < a.length by omega) (show 0 < (a.getD 0 []).length by omega)
        have hrow : ∀ j, j < (a.getD i []).length → ((a.getD i []).getD j []).length = ((a.getD i []).getD 0 []).length := fun j hj => by
          rw [r0, hf.row (show i < a.length by omega) (show j < (a.getD 0 []).length by omega)]
        refine ats_skip ?_
        repeat refine ats_seq ?_
        refine ats_block ?_
        repeat refine ats_seq ?_
        refine ats_go (by first | exact fix0 hcx | exact fix1 hcx rfl) fun K hK => ?_
        simp only [go_sem, Nat.reduceLT, Nat.reduceBNe, Nat.reduceBEq, Nat.reduceEqDiff, Nat.reduceAdd, Nat.reduceSub, Nat.reduceLeDiff, Int.reduceLE, Int.reduceLT, Int.reduceToNat, Int.reduceNeg, Int.reduceEq, ↓reduceIte, reduceCtorEq]
        simp only [gi]
        repeat refine And.intro (by first | omega | (intro hq; first | omega | (simp only [decide_eq_false_iff_not, decide_eq_true_eq, Bool.not_eq_false', Bool.not_eq_true'] at hq; omega))) ?_
        refine hK _ ?_
        clear hK K
        repeat refine ats_seq ?_
        refine ats_pick (fix0 hcx) mixed (by kernel_rfl) fun K hK => ?_
        simp only [go_sem, Nat.reduceLT, Nat.reduceBNe, Nat.reduceBEq, Nat.reduceEqDiff, Nat.reduceAdd, Nat.reduceSub, Nat.reduceLeDiff, Int.reduceLE, Int.reduceLT, Int.reduceToNat, Int.reduceNeg, Int.reduceEq, ↓reduceIte, reduceCtorEq]
        repeat refine And.intro (by first | omega | (intro hq; first | omega | (simp only [decide_eq_false_iff_not, decide_eq_true_eq, Bool.not_eq_false', Bool.not_eq_true'] at hq; omega))) ?_
        first | refine fcall_fresh rfl (transpose_ok (a.getD i []) (by omega) (by omega) (by rw [r0]; exact hm16) hrow) ?_ | refine YR_intro (acall_fresh rfl (transpose_ok (a.getD i []) (by omega) (by omega) (by rw [r0]; exact hm16) hrow)) ?_
        simp only [go_sem, Nat.reduceLT, Nat.reduceBNe, Nat.reduceBEq, Nat.reduceEqDiff, Nat.reduceAdd, Nat.reduceSub, Nat.reduceLeDiff, Int.reduceLE, Int.reduceLT, Int.reduceToNat, Int.reduceNeg, Int.reduceEq, ↓reduceIte, reduceCtorEq]
        first | refine fcall_data (equalRows_ok _ _) rfl ?_ | refine YR_intro (acall_data (equalRows_ok _ _) rfl) ?_
        simp only [go_sem, Nat.reduceLT, Nat.reduceBNe, Nat.reduceBEq, Nat.reduceEqDiff, Nat.reduceAdd, Nat.reduceSub, Nat.reduceLeDiff, Int.reduceLE, Int.reduceLT, Int.reduceToNat, Int.reduceNeg, Int.reduceEq, ↓reduceIte, reduceCtorEq]
        refine hK _ ?_
        clear hK K
        repeat refine ats_seq ?_
        first | refine ats_ifn (p := _) rfl trivial (fun h2 => ?_) (fun h2 => ?_) | refine ats_ifp (p := _) rfl trivial (fun h2 => ?_) (fun h2 => ?_) | refine ats_cond rfl trivial (fun h2 => ?_) (fun h2 => ?_)
        · repeat refine ats_seq ?_
          refine ats_go (by first | exact fix0 hcx | exact fix1 hcx rfl) fun K hK => ?_
          simp only [go_sem, Nat.reduceLT, Nat.reduceBNe, Nat.reduceBEq, Nat.reduceEqDiff, Nat.reduceAdd, Nat.reduceSub, Nat.reduceLeDiff, Int.reduceLE, Int.reduceLT, Int.reduceToNat, Int.reduceNeg, Int.reduceEq, ↓reduceIte, reduceCtorEq]
          refine hK _ ?_
          clear hK K
          have e1 : first t.length (actH t a) = some [2, (i : Int)] := first_some (by omega) Hi (if_neg h2)
          have e : actF t a = some [2, (i : Int)] := by simp only [actF, eA, orE, eG, e1]
          exact ats_ret (ownV (is := [2]) rfl ⟨rfl, trivial⟩ (by rw [e]; rfl) (by simp))
        · refine ats_skip ?_
          repeat refine ats_seq ?_
          refine ats_go (by first | exact fix0 hcx | exact fix1 hcx rfl) fun K hK => ?_
          simp only [go_sem, Nat.reduceLT, Nat.reduceBNe, Nat.reduceBEq, Nat.reduceEqDiff, Nat.reduceAdd, Nat.reduceSub, Nat.reduceLeDiff, Int.reduceLE, Int.reduceLT, Int.reduceToNat, Int.reduceNeg, Int.reduceEq, ↓reduceIte, reduceCtorEq]
          repeat refine And.intro (by first | omega | (intro hq; first | omega | (simp only [decide_eq_false_iff_not, decide_eq_true_eq, Bool.not_eq_false', Bool.not_eq_true'] at hq; omega))) ?_
          refine hK _ ?_
          clear hK K
          refine ⟨i + 1, ⟨by omega, fun a ha => by rcases Nat.lt_succ_iff_lt_or_eq.1 ha with h | rfl; exact Hi a h; exact if_pos h2⟩, by omega, .inl ⟨?_, rfl⟩⟩
          simp only [SlotsLe, St.get, slotGet, Nat.reduceEqDiff, ↓reduceIte, AV.int.injEq, AV.bool.injEq, AV.l1.injEq, AV.l2.injEq, AV.l3.injEq, true_and, and_true]
          omega
      · have eH : first t.length (actH t a) = none := first_none (fun i hi => Hi i (by omega))
        have e : actF t a = none := by simp only [actF, eA, orE, eG, eH]
        refine ats_exit (lq_x ?_)
        repeat refine ats_seq ?_
        refine ats_go (by first | exact fix0 hcx | exact fix1 hcx rfl) fun K hK => ?_
        simp only [go_sem, Nat.reduceLT, Nat.reduceBNe, Nat.reduceBEq, Nat.reduceEqDiff, Nat.reduceAdd, Nat.reduceSub, Nat.reduceLeDiff, Int.reduceLE, Int.reduceLT, Int.reduceToNat, Int.reduceNeg, Int.reduceEq, ↓reduceIte, reduceCtorEq]
        refine hK _ ?_
        clear hK K
        exact ats_ret (ownV (is := []) rfl ⟨rfl, trivial⟩ (by rw [e]; rfl) (by simp))
end Go.Proofs.Ytomfedhhfcelkaa
