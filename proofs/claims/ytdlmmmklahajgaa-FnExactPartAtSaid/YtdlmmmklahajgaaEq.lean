/-
  The program's PartAt.
-/
import Derived.Test.YtdlmmmklahajgaaEr
set_option linter.unusedSimpArgs false
set_option linter.unusedVariables false
namespace Go.Proofs.Ytdlmmmklahajgaa
open Go Go.Aw Go.Pl

set_option maxHeartbeats 8000000 in
theorem implPa_ok (t a : List (List (List Int))) (x : Int) : FreshCall Try.prog 26 [.agg [.l3 t], .agg [.l3 a], .int x] (paA t a x) := by
  have ha := IsAction_ok t a
  unfold paA
  refine FreshCall.intro (n := 101) (rs := [.cell 6 29, .tmp 7]) Try.call26 Try.func26 rfl rfl rfl (by simp only [List.length_cons, List.length_nil]; omega) (fun cx hcx => ats_of ?_); simp only [argSlots, Nat.zero_add, Nat.reduceAdd]
  (repeat refine ats_seq ?_); refine ats_go (by first | exact fix0 hcx | exact fix1 hcx rfl) fun K hK => ?_; simp only [go_sem, seval]; refine hK _ ?_; clear hK K
  (repeat refine ats_seq ?_); refine ats_go (by first | exact fix0 hcx | exact fix1 hcx rfl) fun K hK => ?_; simp only [go_sem, seval]
  first | refine fcall_free rfl rfl (ha) ?_ | refine YR_intro (acall_free rfl rfl (ha)) ?_
  simp only [go_sem, seval]
  refine hK _ ?_; clear hK K
  (repeat refine ats_seq ?_); first | refine ats_ifn (p := _) rfl trivial (fun hc1 => ?_) (fun hc1 => ?_) | refine ats_ifp (p := _) rfl trivial (fun hc1 => ?_) (fun hc1 => ?_) | refine ats_cond rfl trivial (fun hc1 => ?_) (fun hc1 => ?_)
  · have e : ¬ isAct t a = true := fun h => hc1 (isAct_iff.1 h)
    (repeat refine ats_seq ?_); refine ats_go (by first | exact fix0 hcx | exact fix1 hcx rfl) fun K hK => ?_; simp only [go_sem, seval]; refine hK _ ?_; clear hK K
    rw [if_neg e]
    exact ats_ret (own2C (v := .agg [.nil]) (by simp only [go_sem, seval]) trivial rfl (by simp))
  · have e : isAct t a = true := isAct_iff.2 hc1
    obtain ⟨p1, p2, p3, p4, p5⟩ := act_parts e
    have hpt := isPoint_ok a p4 p3 x
    rw [if_pos e]
    refine ats_skip ?_
    (repeat refine ats_seq ?_); refine ats_go (by first | exact fix0 hcx | exact fix1 hcx rfl) fun K hK => ?_; simp only [go_sem, seval]
    first | refine fcall_data (hpt) rfl ?_ | refine YR_intro (acall_data (hpt) rfl) ?_
    simp only [go_sem, seval]
    refine hK _ ?_; clear hK K
    (repeat refine ats_seq ?_); first | refine ats_ifn (p := _) rfl trivial (fun hc2 => ?_) (fun hc2 => ?_) | refine ats_ifp (p := _) rfl trivial (fun hc2 => ?_) (fun hc2 => ?_) | refine ats_cond rfl trivial (fun hc2 => ?_) (fun hc2 => ?_)
    · have e2 : ¬ ptB a x = true := by simpa using hc2
      (repeat refine ats_seq ?_); refine ats_go (by first | exact fix0 hcx | exact fix1 hcx rfl) fun K hK => ?_; simp only [go_sem, seval]; refine hK _ ?_; clear hK K
      rw [if_neg e2]
      exact ats_ret (own2C (v := .agg [.nil]) (by simp only [go_sem, seval]) trivial rfl (by simp))
    · have e2 : ptB a x = true := by simpa using hc2
      have hx := ptB_iff.1 e2
      obtain ⟨p, rfl⟩ : ∃ p : Nat, x = p := ⟨x.toNat, by omega⟩
      rw [Int.toNat_natCast] at hx
      have hq := partsI_ok e
      have lp := partsL_length a
      rw [if_pos e2, Int.toNat_natCast]
      refine ats_skip ?_
      (repeat refine ats_seq ?_); refine ats_go (by first | exact fix0 hcx | exact fix1 hcx rfl) fun K hK => ?_; simp only [go_sem, seval]
      first | refine fcall_fresh rfl (hq) ?_ | refine YR_intro (acall_fresh rfl (hq)) ?_
      simp only [go_sem, seval]
      refine hK _ ?_; clear hK K
      (repeat refine ats_seq ?_); refine ats_go (by first | exact fix0 hcx | exact fix1 hcx rfl) fun K hK => ?_; simp only [go_sem, seval]; refine hK _ ?_; clear hK K
      (repeat refine ats_seq ?_); refine ats_loop (fun y : Nat => ⟨[(2, .int p), (4, .bptr 1 0), (6, .bptr 2 0), (8, .l1 (partsL a)), (9, .ref 3 []), (33, .l1 (partsL a)), (34, .int (partsL a).length), (35, .int y)], [(0, .bx [.l3 t]), (1, .bx [.l3 a]), (2, .bx [.nil]), (3, .t1 (ownF (partsL a) ((partsL a).getD p 0) y))]⟩) (fun y => y ≤ (a.getD 0 []).length) (fun y => (a.getD 0 []).length - y) 0 (Nat.zero_le _) (by refine And.intro ?_ rfl; simp only [SlotsLe, St.get, slotGet, Nat.reduceEqDiff, ↓reduceIte, true_and, and_true, AV.int.injEq, AV.bool.injEq, AV.l1.injEq, AV.l2.injEq, AV.l3.injEq]; repeat' (first | rfl | omega | refine And.intro ?_ ?_)) (fun y hy => ?_)
      have ly := (ownF_ok (P := partsL a) (v := (partsL a).getD p 0) y).2
      (repeat refine ats_seq ?_); refine ats_go (by first | exact fix0 hcx | exact fix1 hcx rfl) fun K hK => ?_; simp only [go_sem, seval]; (repeat refine And.intro (by first | omega | (intro hq; first | omega | (simp at hq <;> omega) | (simp_all <;> omega))) ?_); refine hK _ ?_; clear hK K
      (repeat refine ats_seq ?_); first | refine ats_ifn (p := _) rfl trivial (fun hy2 => ?_) (fun hy2 => ?_) | refine ats_ifp (p := _) rfl trivial (fun hy2 => ?_) (fun hy2 => ?_) | refine ats_cond rfl trivial (fun hy2 => ?_) (fun hy2 => ?_)
      · refine ats_skip ?_
        (repeat refine ats_seq ?_); refine ats_block ?_
        (repeat refine ats_seq ?_); refine ats_go (by first | exact fix0 hcx | exact fix1 hcx rfl) fun K hK => ?_; simp only [go_sem, seval]; (repeat refine And.intro (by first | omega | (intro hq; first | omega | (simp at hq <;> omega) | (simp_all <;> omega))) ?_); refine hK _ ?_; clear hK K
        (repeat refine ats_seq ?_); refine ats_go (by first | exact fix0 hcx | exact fix1 hcx rfl) fun K hK => ?_; simp only [go_sem, seval]; (repeat refine And.intro (by first | omega | (intro hq; first | omega | (simp at hq <;> omega) | (simp_all <;> omega))) ?_); refine hK _ ?_; clear hK K
        (repeat refine ats_seq ?_); first | refine ats_ifn (p := _) rfl trivial (fun hc3 => ?_) (fun hc3 => ?_) | refine ats_ifp (p := _) rfl trivial (fun hc3 => ?_) (fun hc3 => ?_) | refine ats_cond rfl trivial (fun hc3 => ?_) (fun hc3 => ?_)
        · have e3 := ownF_yes (P := partsL a) (v := (partsL a).getD p 0) (y := y) (by simpa using hc3)
          (repeat refine ats_seq ?_); refine ats_go (by first | exact fix0 hcx | exact fix1 hcx rfl) fun K hK => ?_; simp only [go_sem, seval]; (repeat refine And.intro (by first | omega | (intro hq; first | omega | (simp at hq <;> omega) | (simp_all <;> omega))) ?_); refine hK _ ?_; clear hK K
          (repeat refine ats_seq ?_); refine ats_go (by first | exact fix0 hcx | exact fix1 hcx rfl) fun K hK => ?_; simp only [go_sem, seval]; (repeat refine And.intro (by first | omega | (intro hq; first | omega | (simp at hq <;> omega) | (simp_all <;> omega))) ?_); refine hK _ ?_; clear hK K
          refine ⟨y + 1, by omega, by omega, .inr ⟨[4], by simp only [killL, List.map_cons, List.map_nil, killA, killAs, qOf, rmT, killH, killT, List.filter_cons, List.filter_nil, List.contains_cons, List.contains_nil, SlotsLe, St.get, slotGet, Nat.reduceEqDiff, Nat.reduceBEq, Bool.or_false, Bool.or_true, Bool.false_and, Bool.not_true, Bool.not_false, Bool.false_eq_true, ↓reduceIte, if_true, if_false, AV.int.injEq, AV.bool.injEq, AV.l1.injEq, AV.l2.injEq, AV.l3.injEq, true_and, and_true]; omega, by simp only [killL, List.map_cons, List.map_nil, killA, killAs, qOf, rmT, killH, killT, List.filter_cons, List.filter_nil, List.contains_cons, List.contains_nil, SlotsLe, St.get, slotGet, Nat.reduceEqDiff, Nat.reduceBEq, Bool.or_false, Bool.or_true, Bool.false_and, Bool.not_true, Bool.not_false, Bool.false_eq_true, ↓reduceIte, if_true, if_false, AV.int.injEq, AV.bool.injEq, AV.l1.injEq, AV.l2.injEq, AV.l3.injEq, true_and, and_true]; rw [e3]⟩⟩
        · have e3 := ownF_no (P := partsL a) (v := (partsL a).getD p 0) (y := y) (by simpa using hc3)
          refine ats_skip ?_
          (repeat refine ats_seq ?_); refine ats_go (by first | exact fix0 hcx | exact fix1 hcx rfl) fun K hK => ?_; simp only [go_sem, seval]; (repeat refine And.intro (by first | omega | (intro hq; first | omega | (simp at hq <;> omega) | (simp_all <;> omega))) ?_); refine hK _ ?_; clear hK K
          refine ⟨y + 1,  by omega, by omega, .inl ⟨by simp only [SlotsLe, St.get, slotGet, Nat.reduceEqDiff, ↓reduceIte, AV.int.injEq, AV.bool.injEq, AV.l1.injEq, AV.l2.injEq, AV.l3.injEq, true_and, and_true]; omega,  by rw [e3]⟩⟩
      · obtain rfl : y = (a.getD 0 []).length := by omega
        have eo : ownF (partsL a) ((partsL a).getD p 0) (a.getD 0 []).length = ownL a p := rfl
        obtain ⟨o1, o2⟩ := own_ok (a := a) (x := p)
        rw [eo]
        obtain ⟨L, eL⟩ : ∃ L, ownL a p = L := ⟨_, rfl⟩
        obtain ⟨m, em⟩ : ∃ m, (a.getD 0 []).length = m := ⟨_, rfl⟩
        rw [eL, em] at o1 o2
        rw [em] at p1 p2 p3
        rw [eL]
        obtain ⟨n, en⟩ : ∃ n, L.length = n := ⟨_, rfl⟩
        have hz := zeros_ok n n (by omega) (by omega)
        rw [qfill_zero (f := fun _ _ => 0)] at hz
        refine ats_exit (lq_x ?_)
        (repeat refine ats_seq ?_); refine ats_go (by first | exact fix0 hcx | exact fix1 hcx rfl) fun K hK => ?_; simp only [go_sem, seval]; (repeat refine And.intro (by first | omega | (intro hq; first | omega | (simp at hq <;> omega) | (simp_all <;> omega))) ?_); refine hK _ ?_; clear hK K
        (repeat refine ats_seq ?_); refine ats_go (by first | exact fix0 hcx | exact fix1 hcx rfl) fun K hK => ?_; simp only [go_sem, seval]; (repeat refine And.intro (by first | omega | (intro hq; first | omega | (simp at hq <;> omega) | (simp_all <;> omega))) ?_); refine hK _ ?_; clear hK K
        (repeat refine ats_seq ?_)
        refine ats_loop (fun o : Option Nat => match o with
          | none => ⟨[(6, .bptr 2 0), (9, .ref 3 []), (12, .bptr 4 0), (53, .l3 a), (54, .int a.length), (55, .int 0)], [(0, .bx [.l3 t]), (1, .bx [.l3 a]), (2, .bx [.nil]), (3, .t1 L), (4, .bx [.nil])]⟩
          | some i => ⟨[(6, .bptr 2 0), (9, .ref 3 []), (12, .bptr 4 0), (53, .l3 a), (54, .int a.length), (55, .int i)], [(0, .bx [.l3 t]), (1, .bx [.l3 a]), (2, .bx [.nil]), (3, .t1 L), (4, .bx [.ref 7 []]), (7, .t3 (paL a L i))]⟩) (fun o => match o with
          | none => True
          | some i => 1 ≤ i ∧ i ≤ a.length) (fun o => match o with
          | none => a.length + 1
          | some i => a.length - i) none trivial ⟨by simp only [SlotsLe, St.get, slotGet, Nat.reduceEqDiff, ↓reduceIte, true_and, and_true], rfl⟩ (fun o ho => ?_)
        cases o with
        | none =>
          dsimp only at ho ⊢
          (repeat refine ats_seq ?_); refine ats_go (by first | exact fix0 hcx | exact fix1 hcx rfl) fun K hK => ?_; simp only [go_sem, seval]; refine hK _ ?_; clear hK K
          (repeat refine ats_seq ?_); first | refine ats_ifn (p := _) rfl trivial (fun hli => ?_) (fun hli => ?_) | refine ats_ifp (p := _) rfl trivial (fun hli => ?_) (fun hli => ?_) | refine ats_cond rfl trivial (fun hli => ?_) (fun hli => ?_)
          · have mi := p1 0 (by omega)
            have li := mi.1
            refine ats_skip ?_
            (repeat refine ats_seq ?_); refine ats_block ?_
            (repeat refine ats_seq ?_); refine ats_go (by first | exact fix0 hcx | exact fix1 hcx rfl) fun K hK => ?_; simp only [go_sem, seval]; (repeat refine And.intro (by first | omega | (intro hq; first | omega | (simp at hq <;> omega) | (simp_all <;> omega))) ?_); refine hK _ ?_; clear hK K
            (repeat refine ats_seq ?_); refine ats_go (by first | exact fix0 hcx | exact fix1 hcx rfl) fun K hK => ?_; simp only [go_sem, seval]
            simp only [en]
            (repeat refine And.intro (by first | omega | (intro hq; first | omega | (simp at hq <;> omega) | (simp_all <;> omega))) ?_)
            refine fcall_own rfl (hz) rfl ?_; simp only [go_sem, seval]
            refine hK _ ?_; clear hK K
            have zz : matF n n (fillF (fun _ _ => 0) 0 0) = matF n n (fillF (subF (a.getD 0 []) L) 0 0) := by rw [← qfill_zero, ← qfill_zero]
            rw [zz]
            (repeat refine ats_seq ?_); refine ats_go (by first | exact fix0 hcx | exact fix1 hcx rfl) fun K hK => ?_; simp only [go_sem, seval]; (repeat refine And.intro (by first | omega | (intro hq; first | omega | (simp at hq <;> omega) | (simp_all <;> omega))) ?_); refine hK _ ?_; clear hK K
            (repeat refine ats_seq ?_); refine ats_loop (fun j : Nat => ⟨[(6, .bptr 2 0), (9, .ref 3 []), (12, .bptr 4 0), (14, .l2 (a.getD 0 [])), (15, .ref 5 []), (53, .l3 a), (54, .int a.length), (55, .int 0), (64, .ref 3 []), (65, .int L.length), (66, .int j)], [(5, .t2 (matF n n (fillF (subF (a.getD 0 []) L) j 0))), (0, .bx [.l3 t]), (1, .bx [.l3 a]), (2, .bx [.nil]), (3, .t1 L), (4, .bx [.nil])]⟩) (fun j => j ≤ n) (fun j => n - j) 0 (Nat.zero_le _) (by refine And.intro ?_ rfl; simp only [SlotsLe, St.get, slotGet, Nat.reduceEqDiff, ↓reduceIte, true_and, and_true, AV.int.injEq, AV.bool.injEq, AV.l1.injEq, AV.l2.injEq, AV.l3.injEq]; repeat' (first | rfl | omega | refine And.intro ?_ ?_)) (fun j hj => ?_)
            have lj := matF_length n n (fillF (subF (a.getD 0 []) L) j 0)
            (repeat refine ats_seq ?_); refine ats_go (by first | exact fix0 hcx | exact fix1 hcx rfl) fun K hK => ?_; simp only [go_sem, seval]; (repeat refine And.intro (by first | omega | (intro hq; first | omega | (simp at hq <;> omega) | (simp_all <;> omega))) ?_); refine hK _ ?_; clear hK K
            (repeat refine ats_seq ?_); first | refine ats_ifn (p := _) rfl trivial (fun hlj => ?_) (fun hlj => ?_) | refine ats_ifp (p := _) rfl trivial (fun hlj => ?_) (fun hlj => ?_) | refine ats_cond rfl trivial (fun hlj => ?_) (fun hlj => ?_)
            · have hLj := o1 j (by omega)
              have rj := mi.row (show (L.getD j 0).toNat < m by omega)
              refine ats_skip ?_
              (repeat refine ats_seq ?_); refine ats_block ?_
              (repeat refine ats_seq ?_); refine ats_go (by first | exact fix0 hcx | exact fix1 hcx rfl) fun K hK => ?_; simp only [go_sem, seval]; (repeat refine And.intro (by first | omega | (intro hq; first | omega | (simp at hq <;> omega) | (simp_all <;> omega))) ?_); refine hK _ ?_; clear hK K
              (repeat refine ats_seq ?_); refine ats_go (by first | exact fix0 hcx | exact fix1 hcx rfl) fun K hK => ?_; simp only [go_sem, seval]; (repeat refine And.intro (by first | omega | (intro hq; first | omega | (simp at hq <;> omega) | (simp_all <;> omega))) ?_); refine hK _ ?_; clear hK K
              (repeat refine ats_seq ?_); refine ats_loop (fun k : Nat => ⟨[(6, .bptr 2 0), (9, .ref 3 []), (12, .bptr 4 0), (14, .l2 (a.getD 0 [])), (15, .ref 5 []), (16, .int j), (17, .int (L.getD j 0)), (53, .l3 a), (54, .int a.length), (55, .int 0), (64, .ref 3 []), (65, .int L.length), (66, .int j), (71, .ref 3 []), (72, .int L.length), (73, .int k)], [(5, .t2 (matF n n (fillF (subF (a.getD 0 []) L) j k))), (0, .bx [.l3 t]), (1, .bx [.l3 a]), (2, .bx [.nil]), (3, .t1 L), (4, .bx [.nil])]⟩) (fun k => k ≤ n) (fun k => n - k) 0 (Nat.zero_le _) (by refine And.intro ?_ rfl; simp only [SlotsLe, St.get, slotGet, Nat.reduceEqDiff, ↓reduceIte, true_and, and_true, AV.int.injEq, AV.bool.injEq, AV.l1.injEq, AV.l2.injEq, AV.l3.injEq]; repeat' (first | rfl | omega | refine And.intro ?_ ?_)) (fun k hk => ?_)
              have lk := matF_length n n (fillF (subF (a.getD 0 []) L) j k)
              have lr : ((matF n n (fillF (subF (a.getD 0 []) L) j k)).getD j []).length = n := by rw [matF_get (by omega), rowF_length]
              have sk := qfill_set (n := n) (f := subF (a.getD 0 []) L) (j := j) (k := k) (by omega)
              (repeat refine ats_seq ?_); refine ats_go (by first | exact fix0 hcx | exact fix1 hcx rfl) fun K hK => ?_; simp only [go_sem, seval]; (repeat refine And.intro (by first | omega | (intro hq; first | omega | (simp at hq <;> omega) | (simp_all <;> omega))) ?_); refine hK _ ?_; clear hK K
              (repeat refine ats_seq ?_); first | refine ats_ifn (p := _) rfl trivial (fun hlk => ?_) (fun hlk => ?_) | refine ats_ifp (p := _) rfl trivial (fun hlk => ?_) (fun hlk => ?_) | refine ats_cond rfl trivial (fun hlk => ?_) (fun hlk => ?_)
              · have hLk := o1 k (by omega)
                refine ats_skip ?_
                (repeat refine ats_seq ?_); refine ats_block ?_
                (repeat refine ats_seq ?_); refine ats_go (by first | exact fix0 hcx | exact fix1 hcx rfl) fun K hK => ?_; simp only [go_sem, seval]; (repeat refine And.intro (by first | omega | (intro hq; first | omega | (simp at hq <;> omega) | (simp_all <;> omega))) ?_); refine hK _ ?_; clear hK K
                (repeat refine ats_seq ?_)
                refine ats_plan [] (.one 0 (.one 1 (.one 2 (.one 3 (.one 4 (.one 5 (.one 6 (.one 7 (.one 8 (.one 9 (.one 10 (.one 11 (.one 12 (.alt 13 .fin .stop)))))))))))))) ⟨[(6, .bptr 2 0), (9, .ref 3 []), (12, .bptr 4 0), (14, .l2 (a.getD 0 [])), (15, .ref 5 []), (16, .int j), (17, .int (L.getD j 0)), (53, .l3 a), (54, .int a.length), (55, .int 0), (64, .ref 3 []), (65, .int L.length), (66, .int j), (71, .ref 3 []), (72, .int L.length), (73, .int k)], [(5, .t2 ((matF n n (fillF (subF (a.getD 0 []) L) j k)).set j (((matF n n (fillF (subF (a.getD 0 []) L) j k)).getD j []).set k (subF (a.getD 0 []) L j k)))), (0, .bx [.l3 t]), (1, .bx [.l3 a]), (2, .bx [.nil]), (3, .t1 L), (4, .bx [.nil])]⟩ (fix0 hcx) mixed (by kernel_rfl) (fun K hK => ?_) ?_
                · simp only [go_sem, seval, pl_fin, pl_stop, pl_one, pl_alt, PK_ap, pickO, List.getElem?_toArray, List.getElem?_cons_zero, List.getElem?_cons_succ, Option.getD_some, and_true, true_and, and_self, List.contains_cons, List.contains_nil, Bool.or_false, Bool.or_true]
                  repeat' (first | exact hK _ (by refine And.intro ?_ rfl; simp only [SlotsLe, St.get, slotGet, Nat.reduceEqDiff, ↓reduceIte, AV.int.injEq, AV.bool.injEq, AV.l1.injEq, AV.l2.injEq, AV.l3.injEq, true_and, and_true])  | omega | refine And.intro ?_ ?_)
                rw [sk]
                (repeat refine ats_seq ?_); refine ats_go (by first | exact fix0 hcx | exact fix1 hcx rfl) fun K hK => ?_; simp only [go_sem, seval]; (repeat refine And.intro (by first | omega | (intro hq; first | omega | (simp at hq <;> omega) | (simp_all <;> omega))) ?_); refine hK _ ?_; clear hK K
                refine ⟨k + 1,  by omega, by omega, .inl ⟨by simp only [SlotsLe, St.get, slotGet, Nat.reduceEqDiff, ↓reduceIte, AV.int.injEq, AV.bool.injEq, AV.l1.injEq, AV.l2.injEq, AV.l3.injEq, true_and, and_true]; omega,  rfl⟩⟩
              · obtain rfl : k = n := by omega
                rw [qfill_row]
                refine ats_exit (lq_x ?_)
                (repeat refine ats_seq ?_); refine ats_go (by first | exact fix0 hcx | exact fix1 hcx rfl) fun K hK => ?_; simp only [go_sem, seval]; (repeat refine And.intro (by first | omega | (intro hq; first | omega | (simp at hq <;> omega) | (simp_all <;> omega))) ?_); refine hK _ ?_; clear hK K
                refine ⟨j + 1,  by omega, by omega, .inl ⟨by simp only [SlotsLe, St.get, slotGet, Nat.reduceEqDiff, ↓reduceIte, AV.int.injEq, AV.bool.injEq, AV.l1.injEq, AV.l2.injEq, AV.l3.injEq, true_and, and_true]; omega,  rfl⟩⟩
            · obtain rfl : j = n := by omega
              rw [qfill_end]
              refine ats_exit (lq_x ?_)
              (repeat refine ats_seq ?_); refine ats_go (by first | exact fix0 hcx | exact fix1 hcx rfl) fun K hK => ?_; simp only [go_sem, seval]; (repeat refine And.intro (by first | omega | (intro hq; first | omega | (simp at hq <;> omega) | (simp_all <;> omega))) ?_); refine hK _ ?_; clear hK K
              (repeat refine ats_seq ?_); refine ats_go (by first | exact fix0 hcx | exact fix1 hcx rfl) fun K hK => ?_; simp only [go_sem, seval]; (repeat refine And.intro (by first | omega | (intro hq; first | omega | (simp at hq <;> omega) | (simp_all <;> omega))) ?_); refine hK _ ?_; clear hK K
              refine ⟨some (0 + 1), ⟨by omega, by omega⟩, by show a.length - (0 + 1) < a.length + 1; omega, .inl ⟨?_, ?_⟩⟩
              · simp only [SlotsLe, St.get, slotGet, Nat.reduceEqDiff, ↓reduceIte, AV.int.injEq, true_and, and_true]
                omega
              · have es : paL a L (0 + 1) =  [subM (a.getD 0 []) L] := by rw [paL_succ] <;> rfl
                dsimp only
                rw [es]
                unfold subM
                rw [en]
          · omega
        | some i =>
          dsimp only at ho ⊢
          have ls := paL_length (a := a) (L := L) (i := i)
          (repeat refine ats_seq ?_); refine ats_go (by first | exact fix0 hcx | exact fix1 hcx rfl) fun K hK => ?_; simp only [go_sem, seval]; refine hK _ ?_; clear hK K
          (repeat refine ats_seq ?_); first | refine ats_ifn (p := _) rfl trivial (fun hli => ?_) (fun hli => ?_) | refine ats_ifp (p := _) rfl trivial (fun hli => ?_) (fun hli => ?_) | refine ats_cond rfl trivial (fun hli => ?_) (fun hli => ?_)
          · have mi := p1 i (by omega)
            have li := mi.1
            refine ats_skip ?_
            (repeat refine ats_seq ?_); refine ats_block ?_
            (repeat refine ats_seq ?_); refine ats_go (by first | exact fix0 hcx | exact fix1 hcx rfl) fun K hK => ?_; simp only [go_sem, seval]; (repeat refine And.intro (by first | omega | (intro hq; first | omega | (simp at hq <;> omega) | (simp_all <;> omega))) ?_); refine hK _ ?_; clear hK K
            (repeat refine ats_seq ?_); refine ats_go (by first | exact fix0 hcx | exact fix1 hcx rfl) fun K hK => ?_; simp only [go_sem, seval]
            simp only [en]
            (repeat refine And.intro (by first | omega | (intro hq; first | omega | (simp at hq <;> omega) | (simp_all <;> omega))) ?_)
            refine fcall_own rfl (hz) rfl ?_; simp only [go_sem, seval]
            refine hK _ ?_; clear hK K
            have zz : matF n n (fillF (fun _ _ => 0) 0 0) = matF n n (fillF (subF (a.getD i []) L) 0 0) := by rw [← qfill_zero, ← qfill_zero]
            rw [zz]
            (repeat refine ats_seq ?_); refine ats_go (by first | exact fix0 hcx | exact fix1 hcx rfl) fun K hK => ?_; simp only [go_sem, seval]; (repeat refine And.intro (by first | omega | (intro hq; first | omega | (simp at hq <;> omega) | (simp_all <;> omega))) ?_); refine hK _ ?_; clear hK K
            (repeat refine ats_seq ?_); refine ats_loop (fun j : Nat => ⟨[(6, .bptr 2 0), (9, .ref 3 []), (12, .bptr 4 0), (14, .l2 (a.getD i [])), (15, .ref 8 []), (53, .l3 a), (54, .int a.length), (55, .int i), (64, .ref 3 []), (65, .int L.length), (66, .int j)], [(8, .t2 (matF n n (fillF (subF (a.getD i []) L) j 0))), (0, .bx [.l3 t]), (1, .bx [.l3 a]), (2, .bx [.nil]), (3, .t1 L), (4, .bx [.ref 7 []]), (7, .t3 (paL a L i))]⟩) (fun j => j ≤ n) (fun j => n - j) 0 (Nat.zero_le _) (by refine And.intro ?_ rfl; simp only [SlotsLe, St.get, slotGet, Nat.reduceEqDiff, ↓reduceIte, true_and, and_true, AV.int.injEq, AV.bool.injEq, AV.l1.injEq, AV.l2.injEq, AV.l3.injEq]; repeat' (first | rfl | omega | refine And.intro ?_ ?_)) (fun j hj => ?_)
            have lj := matF_length n n (fillF (subF (a.getD i []) L) j 0)
            (repeat refine ats_seq ?_); refine ats_go (by first | exact fix0 hcx | exact fix1 hcx rfl) fun K hK => ?_; simp only [go_sem, seval]; (repeat refine And.intro (by first | omega | (intro hq; first | omega | (simp at hq <;> omega) | (simp_all <;> omega))) ?_); refine hK _ ?_; clear hK K
            (repeat refine ats_seq ?_); first | refine ats_ifn (p := _) rfl trivial (fun hlj => ?_) (fun hlj => ?_) | refine ats_ifp (p := _) rfl trivial (fun hlj => ?_) (fun hlj => ?_) | refine ats_cond rfl trivial (fun hlj => ?_) (fun hlj => ?_)
            · have hLj := o1 j (by omega)
              have rj := mi.row (show (L.getD j 0).toNat < m by omega)
              refine ats_skip ?_
              (repeat refine ats_seq ?_); refine ats_block ?_
              (repeat refine ats_seq ?_); refine ats_go (by first | exact fix0 hcx | exact fix1 hcx rfl) fun K hK => ?_; simp only [go_sem, seval]; (repeat refine And.intro (by first | omega | (intro hq; first | omega | (simp at hq <;> omega) | (simp_all <;> omega))) ?_); refine hK _ ?_; clear hK K
              (repeat refine ats_seq ?_); refine ats_go (by first | exact fix0 hcx | exact fix1 hcx rfl) fun K hK => ?_; simp only [go_sem, seval]; (repeat refine And.intro (by first | omega | (intro hq; first | omega | (simp at hq <;> omega) | (simp_all <;> omega))) ?_); refine hK _ ?_; clear hK K
              (repeat refine ats_seq ?_); refine ats_loop (fun k : Nat => ⟨[(6, .bptr 2 0), (9, .ref 3 []), (12, .bptr 4 0), (14, .l2 (a.getD i [])), (15, .ref 8 []), (16, .int j), (17, .int (L.getD j 0)), (53, .l3 a), (54, .int a.length), (55, .int i), (64, .ref 3 []), (65, .int L.length), (66, .int j), (71, .ref 3 []), (72, .int L.length), (73, .int k)], [(8, .t2 (matF n n (fillF (subF (a.getD i []) L) j k))), (0, .bx [.l3 t]), (1, .bx [.l3 a]), (2, .bx [.nil]), (3, .t1 L), (4, .bx [.ref 7 []]), (7, .t3 (paL a L i))]⟩) (fun k => k ≤ n) (fun k => n - k) 0 (Nat.zero_le _) (by refine And.intro ?_ rfl; simp only [SlotsLe, St.get, slotGet, Nat.reduceEqDiff, ↓reduceIte, true_and, and_true, AV.int.injEq, AV.bool.injEq, AV.l1.injEq, AV.l2.injEq, AV.l3.injEq]; repeat' (first | rfl | omega | refine And.intro ?_ ?_)) (fun k hk => ?_)
              have lk := matF_length n n (fillF (subF (a.getD i []) L) j k)
              have lr : ((matF n n (fillF (subF (a.getD i []) L) j k)).getD j []).length = n := by rw [matF_get (by omega), rowF_length]
              have sk := qfill_set (n := n) (f := subF (a.getD i []) L) (j := j) (k := k) (by omega)
              (repeat refine ats_seq ?_); refine ats_go (by first | exact fix0 hcx | exact fix1 hcx rfl) fun K hK => ?_; simp only [go_sem, seval]; (repeat refine And.intro (by first | omega | (intro hq; first | omega | (simp at hq <;> omega) | (simp_all <;> omega))) ?_); refine hK _ ?_; clear hK K
              (repeat refine ats_seq ?_); first | refine ats_ifn (p := _) rfl trivial (fun hlk => ?_) (fun hlk => ?_) | refine ats_ifp (p := _) rfl trivial (fun hlk => ?_) (fun hlk => ?_) | refine ats_cond rfl trivial (fun hlk => ?_) (fun hlk => ?_)
              · have hLk := o1 k (by omega)
                refine ats_skip ?_
                (repeat refine ats_seq ?_); refine ats_block ?_
                (repeat refine ats_seq ?_); refine ats_go (by first | exact fix0 hcx | exact fix1 hcx rfl) fun K hK => ?_; simp only [go_sem, seval]; (repeat refine And.intro (by first | omega | (intro hq; first | omega | (simp at hq <;> omega) | (simp_all <;> omega))) ?_); refine hK _ ?_; clear hK K
                (repeat refine ats_seq ?_)
                refine ats_plan [] (.one 0 (.one 1 (.one 2 (.one 3 (.one 4 (.one 5 (.one 6 (.one 7 (.one 8 (.one 9 (.one 10 (.one 11 (.one 12 (.alt 13 .fin .stop)))))))))))))) ⟨[(6, .bptr 2 0), (9, .ref 3 []), (12, .bptr 4 0), (14, .l2 (a.getD i [])), (15, .ref 8 []), (16, .int j), (17, .int (L.getD j 0)), (53, .l3 a), (54, .int a.length), (55, .int i), (64, .ref 3 []), (65, .int L.length), (66, .int j), (71, .ref 3 []), (72, .int L.length), (73, .int k)], [(8, .t2 ((matF n n (fillF (subF (a.getD i []) L) j k)).set j (((matF n n (fillF (subF (a.getD i []) L) j k)).getD j []).set k (subF (a.getD i []) L j k)))), (0, .bx [.l3 t]), (1, .bx [.l3 a]), (2, .bx [.nil]), (3, .t1 L), (4, .bx [.ref 7 []]), (7, .t3 (paL a L i))]⟩ (fix0 hcx) mixed (by kernel_rfl) (fun K hK => ?_) ?_
                · simp only [go_sem, seval, pl_fin, pl_stop, pl_one, pl_alt, PK_ap, pickO, List.getElem?_toArray, List.getElem?_cons_zero, List.getElem?_cons_succ, Option.getD_some, and_true, true_and, and_self, List.contains_cons, List.contains_nil, Bool.or_false, Bool.or_true]
                  repeat' (first | exact hK _ (by refine And.intro ?_ rfl; simp only [SlotsLe, St.get, slotGet, Nat.reduceEqDiff, ↓reduceIte, AV.int.injEq, AV.bool.injEq, AV.l1.injEq, AV.l2.injEq, AV.l3.injEq, true_and, and_true])  | omega | refine And.intro ?_ ?_)
                rw [sk]
                (repeat refine ats_seq ?_); refine ats_go (by first | exact fix0 hcx | exact fix1 hcx rfl) fun K hK => ?_; simp only [go_sem, seval]; (repeat refine And.intro (by first | omega | (intro hq; first | omega | (simp at hq <;> omega) | (simp_all <;> omega))) ?_); refine hK _ ?_; clear hK K
                refine ⟨k + 1,  by omega, by omega, .inl ⟨by simp only [SlotsLe, St.get, slotGet, Nat.reduceEqDiff, ↓reduceIte, AV.int.injEq, AV.bool.injEq, AV.l1.injEq, AV.l2.injEq, AV.l3.injEq, true_and, and_true]; omega,  rfl⟩⟩
              · obtain rfl : k = n := by omega
                rw [qfill_row]
                refine ats_exit (lq_x ?_)
                (repeat refine ats_seq ?_); refine ats_go (by first | exact fix0 hcx | exact fix1 hcx rfl) fun K hK => ?_; simp only [go_sem, seval]; (repeat refine And.intro (by first | omega | (intro hq; first | omega | (simp at hq <;> omega) | (simp_all <;> omega))) ?_); refine hK _ ?_; clear hK K
                refine ⟨j + 1,  by omega, by omega, .inl ⟨by simp only [SlotsLe, St.get, slotGet, Nat.reduceEqDiff, ↓reduceIte, AV.int.injEq, AV.bool.injEq, AV.l1.injEq, AV.l2.injEq, AV.l3.injEq, true_and, and_true]; omega,  rfl⟩⟩
            · obtain rfl : j = n := by omega
              rw [qfill_end]
              refine ats_exit (lq_x ?_)
              (repeat refine ats_seq ?_); refine ats_go (by first | exact fix0 hcx | exact fix1 hcx rfl) fun K hK => ?_; simp only [go_sem, seval]; (repeat refine And.intro (by first | omega | (intro hq; first | omega | (simp at hq <;> omega) | (simp_all <;> omega))) ?_); refine hK _ ?_; clear hK K
              (repeat refine ats_seq ?_); refine ats_go (by first | exact fix0 hcx | exact fix1 hcx rfl) fun K hK => ?_; simp only [go_sem, seval]; (repeat refine And.intro (by first | omega | (intro hq; first | omega | (simp at hq <;> omega) | (simp_all <;> omega))) ?_); refine hK _ ?_; clear hK K
              refine ⟨some (i + 1), ⟨by omega, by omega⟩, by show a.length - (i + 1) < a.length - i; omega, .inl ⟨?_, ?_⟩⟩
              · simp only [SlotsLe, St.get, slotGet, Nat.reduceEqDiff, ↓reduceIte, AV.int.injEq, true_and, and_true]
                omega
              · have es : paL a L (i + 1) = paL a L i ++ [subM (a.getD i []) L] := by rw [paL_succ] <;> rfl
                dsimp only
                rw [es]
                unfold subM
                rw [en]
          · obtain rfl : i = a.length := by omega
            refine ats_exit (lq_x ?_)
            (repeat refine ats_seq ?_); refine ats_go (by first | exact fix0 hcx | exact fix1 hcx rfl) fun K hK => ?_; simp only [go_sem, seval]; refine hK _ ?_; clear hK K
            exact ats_ret (own2C (v := .agg [.ref 7 []]) (by simp only [go_sem, seval]) trivial rfl (by simp))
end Go.Proofs.Ytdlmmmklahajgaa
