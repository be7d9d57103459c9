/-
  LeastAction: the reference; shapes.
-/
import Derived.Test.YtkkgmjclfclaoaaFh
import Derived.Test.YtkkgmjclfclaoaaFi
set_option linter.unusedSimpArgs false
set_option linter.unusedVariables false
namespace Go.Proofs.Ytkkgmjclfclaoaa
open Go Go.Aw Go.Pl

theorem idP_succ {n : Nat} : idP (n + 1) = idP n ++ [(n : Int)] := by simp [idP, List.range_succ]

set_option maxHeartbeats 8000000 in
theorem specLa_ok (t a : List (List (List Int))) : PureCall Try.prog 21 [.agg [.l3 t], .agg [.l3 a]] (laA t a) := by
  have ha := l09Is_ok t a
  unfold laA
  refine PureCall.intro (n := 34) (rs := [.cell 4 43, .tmp 5]) Try.call21 Try.func21 rfl rfl rfl (by simp only [List.length_cons, List.length_nil]; omega) (fun cx hcx => ats_of ?_); simp only [argSlots, Nat.zero_add, Nat.reduceAdd]
  (repeat refine ats_seq ?_); refine ats_go (by first | exact fix0 hcx | exact fix1 hcx rfl) fun K hK => ?_; simp only [go_sem, seval]; refine hK _ ?_; clear hK K
  (repeat refine ats_seq ?_); refine ats_go (by first | exact fix0 hcx | exact fix1 hcx rfl) fun K hK => ?_; simp only [go_sem, seval]
  first | refine fcall_free rfl rfl (ha) ?_ | refine YR_intro (acall_free rfl rfl (ha)) ?_
  simp only [go_sem, seval]
  refine hK _ ?_; clear hK K
  (repeat refine ats_seq ?_); first | refine ats_ifn (p := _) rfl trivial (fun hc1 => ?_) (fun hc1 => ?_) | refine ats_ifp (p := _) rfl trivial (fun hc1 => ?_) (fun hc1 => ?_) | refine ats_cond rfl trivial (fun hc1 => ?_) (fun hc1 => ?_)
  · have e : ¬ isAct t a = true := fun h => hc1 (isAct_iff.1 h)
    (repeat refine ats_seq ?_); refine ats_go (by first | exact fix0 hcx | exact fix1 hcx rfl) fun K hK => ?_; simp only [go_sem, seval]; refine hK _ ?_; clear hK K
    rw [if_neg e]
    exact ats_ret (fin2C (v := .agg [.nil]) (by simp only [go_sem, seval]) trivial rfl)
  · have e : isAct t a = true := isAct_iff.2 hc1
    obtain ⟨p1, p2, p3, p4, p5⟩ := act_mats e
    have hsz := l09Size_ok a p4
    rw [if_pos e]
    refine ats_skip ?_
    (repeat refine ats_seq ?_); refine ats_go (by first | exact fix0 hcx | exact fix1 hcx rfl) fun K hK => ?_; simp only [go_sem, seval]
    first | refine fcall_data (hsz) rfl ?_ | refine YR_intro (acall_data (hsz) rfl) ?_
    simp only [go_sem, seval]
    refine hK _ ?_; clear hK K
    (repeat refine ats_seq ?_); first | refine ats_ifn (p := _) rfl trivial (fun hc2 => ?_) (fun hc2 => ?_) | refine ats_ifp (p := _) rfl trivial (fun hc2 => ?_) (fun hc2 => ?_) | refine ats_cond rfl trivial (fun hc2 => ?_) (fun hc2 => ?_)
    · have e2 : ¬ (a.getD 0 []).length ≤ 7 := by omega
      (repeat refine ats_seq ?_); refine ats_go (by first | exact fix0 hcx | exact fix1 hcx rfl) fun K hK => ?_; simp only [go_sem, seval]; refine hK _ ?_; clear hK K
      rw [if_neg e2]
      exact ats_ret (fin2C (v := .agg [.nil]) (by simp only [go_sem, seval]) trivial rfl)
    · have e2 : (a.getD 0 []).length ≤ 7 := by omega
      rw [if_pos e2]
      obtain ⟨n, en⟩ : ∃ n, (a.getD 0 []).length = n := ⟨_, rfl⟩
      rw [en] at p1 p2 p3 e2 hsz
      rw [en]
      have hid := idP_isP n
      have hso := l09Some_ok a (idP n) n p1 p3 p4 p5 hid.q (by rw [hid.len]; exact p3)
      have hle := l09Least_ok a n en p1 p3 p4 p5 n [] (paL a (idP n) a.length) (by simp) QOk.nil (by simp) (paL_Sh hid)
      refine ats_skip ?_
      (repeat refine ats_seq ?_); refine ats_go (by first | exact fix0 hcx | exact fix1 hcx rfl) fun K hK => ?_; simp only [go_sem, seval]; refine hK _ ?_; clear hK K
      (repeat refine ats_seq ?_); refine ats_go (by first | exact fix0 hcx | exact fix1 hcx rfl) fun K hK => ?_; simp only [go_sem, seval]; refine hK _ ?_; clear hK K
      (repeat refine ats_seq ?_); refine ats_loop (fun i : Nat => ⟨[(3, .bptr 1 0), (4, .bptr 2 0), (6, .ref 3 []), (7, .int i)], [(0, .bx [.l3 t]), (1, .bx [.l3 a]), (2, .bx [.nil]), (3, .t1 (idP i))]⟩) (fun i => i ≤ n) (fun i => n - i) 0 (Nat.zero_le _) (by refine And.intro ?_ rfl; simp only [SlotsLe, St.get, slotGet, Nat.reduceEqDiff, ↓reduceIte, true_and, and_true, AV.int.injEq, AV.bool.injEq, AV.l1.injEq, AV.l2.injEq, AV.l3.injEq]; repeat' (first | rfl | omega | refine And.intro ?_ ?_)) (fun i hi => ?_)
      have li : (idP i).length = i := by simp [idP]
      (repeat refine ats_seq ?_); refine ats_go (by first | exact fix0 hcx | exact fix1 hcx rfl) fun K hK => ?_; simp only [go_sem, seval]
      first | refine fcall_data (hsz) rfl ?_ | refine YR_intro (acall_data (hsz) rfl) ?_
      simp only [go_sem, seval]
      (repeat refine And.intro (by first | omega | (intro hq; first | omega | (simp at hq <;> omega) | (simp_all <;> omega))) ?_)
      refine hK _ ?_; clear hK K
      (repeat refine ats_seq ?_); first | refine ats_ifn (p := _) rfl trivial (fun hc4 => ?_) (fun hc4 => ?_) | refine ats_ifp (p := _) rfl trivial (fun hc4 => ?_) (fun hc4 => ?_) | refine ats_cond rfl trivial (fun hc4 => ?_) (fun hc4 => ?_)
      · refine ats_skip ?_
        (repeat refine ats_seq ?_); refine ats_block ?_
        (repeat refine ats_seq ?_); refine ats_go (by first | exact fix0 hcx | exact fix1 hcx rfl) fun K hK => ?_; simp only [go_sem, seval]; (repeat refine And.intro (by first | omega | (intro hq; first | omega | (simp at hq <;> omega) | (simp_all <;> omega))) ?_); refine hK _ ?_; clear hK K
        (repeat refine ats_seq ?_); refine ats_go (by first | exact fix0 hcx | exact fix1 hcx rfl) fun K hK => ?_; simp only [go_sem, seval]; (repeat refine And.intro (by first | omega | (intro hq; first | omega | (simp at hq <;> omega) | (simp_all <;> omega))) ?_); refine hK _ ?_; clear hK K
        refine ⟨i + 1, by omega, by omega, .inr ⟨[4], by simp only [killL, List.map_cons, List.map_nil, killA, killAs, qOf, rmT, killH, killT, List.filter_cons, List.filter_nil, List.contains_cons, List.contains_nil, SlotsLe, St.get, slotGet, Nat.reduceEqDiff, Nat.reduceBEq, Bool.or_false, Bool.or_true, Bool.false_and, Bool.not_true, Bool.not_false, Bool.false_eq_true, ↓reduceIte, if_true, if_false, AV.int.injEq, AV.bool.injEq, AV.l1.injEq, AV.l2.injEq, AV.l3.injEq, true_and, and_true]; omega, by simp only [killL, List.map_cons, List.map_nil, killA, killAs, qOf, rmT, killH, killT, List.filter_cons, List.filter_nil, List.contains_cons, List.contains_nil, SlotsLe, St.get, slotGet, Nat.reduceEqDiff, Nat.reduceBEq, Bool.or_false, Bool.or_true, Bool.false_and, Bool.not_true, Bool.not_false, Bool.false_eq_true, ↓reduceIte, if_true, if_false, AV.int.injEq, AV.bool.injEq, AV.l1.injEq, AV.l2.injEq, AV.l3.injEq, true_and, and_true]; rw [idP_succ]⟩⟩
      · obtain rfl : i = n := by omega
        refine ats_exit (lq_x ?_)
        (repeat refine ats_seq ?_)
        refine ats_plan [5] (.one 0 (.one 1 (.one 2 (.one 3 (.alt 4 (.alt 5 (.alt 6 (.one 7 .fin) .stop) .stop) .stop))))) ⟨[(4, .bptr 2 0), (5, .int 0)], [(0, .bx [.l3 t]), (1, .bx [.l3 a]), (2, .bx [.l3 (leastL a i)])]⟩ (fix0 hcx) mixed (by kernel_rfl) (fun K hK => ?_) ?_
        · simp only [go_sem, seval, pl_fin, pl_stop, pl_one, pl_alt, PK_ap, pickO, List.getElem?_toArray, List.getElem?_cons_zero, List.getElem?_cons_succ, Option.getD_some, and_true, true_and, and_self, List.contains_cons, List.contains_nil, Bool.or_false, Bool.or_true]
          repeat' (first | exact hK _ (by refine And.intro ?_ rfl; simp only [SlotsLe, St.get, slotGet, Nat.reduceEqDiff, ↓reduceIte, AV.int.injEq, AV.bool.injEq, AV.l1.injEq, AV.l2.injEq, AV.l3.injEq, true_and, and_true])  | omega | refine And.intro ?_ ?_ | ((first | refine fcall_fresh rfl (hso) ?_ | refine YR_intro (acall_fresh rfl (hso)) ?_); simp only [go_sem, seval, pl_fin, pl_stop, pl_one, pl_alt, PK_ap, pickO, List.getElem?_toArray, List.getElem?_cons_zero, List.getElem?_cons_succ, Option.getD_some, and_true, true_and, and_self, List.contains_cons, List.contains_nil, Bool.or_false, Bool.or_true]) | ((refine fcall_gone [3, 4] hle (by simp [frzAs, frzA, find]) rfl ?_; simp only [go_sem, seval, pl_fin, pl_stop, pl_one, pl_alt, PK_ap, pickO, List.getElem?_toArray, List.getElem?_cons_zero, List.getElem?_cons_succ, Option.getD_some, and_true, true_and, and_self, List.contains_cons, List.contains_nil, Bool.or_false, Bool.or_true])))
        exact ats_ret (fin2C (v := .agg [.l3 (leastL a i)]) (by simp only [go_sem, seval]) trivial rfl)

theorem laA_shape (t a : List (List (List Int))) : ∃ (u : Option (List (List (List Int)))) (c : Int), laA t a = .tup [.agg [optT u], .int c] ∧ ∀ v, u = some v → tot3 v ≤ 1048576 := by
  unfold laA
  split
  · rename_i hc
    split
    · rename_i e
      refine ⟨some (leastL a (a.getD 0 []).length), 0, rfl, fun v hv => ?_⟩
      cases hv
      obtain ⟨p1, p2, p3, p4, p5⟩ := act_mats hc
      have hsh := leastL_Sh (a := a) (n := (a.getD 0 []).length)
      have h2 := tot_le (n := tot List.length) (B := 256) (leastL a (a.getD 0 []).length) (fun m hm => by
        have h0 := hsh.2 m hm
        have h3 := tot_le (n := List.length) (B := 16) m (fun r hr => by rw [(h0.2 r hr).1]; exact p3)
        have := Nat.mul_le_mul_right 16 (show m.length ≤ 16 by rw [h0.1]; exact p3)
        omega)
      rw [hsh.1] at h2
      have := Nat.mul_le_mul_right 256 p5
      unfold tot3
      omega
    · exact ⟨none, 3, rfl, fun v hv => by cases hv⟩
  · exact ⟨none, 1, rfl, fun v hv => by cases hv⟩
end Go.Proofs.Ytkkgmjclfclaoaa
