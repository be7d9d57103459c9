/-
  The program's LeastAction.
-/
import Derived.Test.YtkkgmjclfclaoaaFg
set_option linter.unusedSimpArgs false
set_option linter.unusedVariables false
namespace Go.Proofs.Ytkkgmjclfclaoaa
open Go Go.Aw Go.Pl

theorem act_mats {t a : List (List (List Int))} (h : isAct t a = true) : (∀ i, i < a.length → MatOk (a.getD 0 []).length (a.getD i [])) ∧ 1 ≤ (a.getD 0 []).length ∧ (a.getD 0 []).length ≤ 16 ∧ 0 < a.length ∧ a.length ≤ 16 := by
  have fa := isAct_fam h
  have h16 := (isAct_ring h).1.2.1
  have h1 := (isAct_ring h).1.1
  have la := fa.1
  exact ⟨fa.2.2.2.2, fa.2.2.1, fa.2.2.2.1, by omega, by omega⟩

set_option maxHeartbeats 8000000 in
theorem implLa_ok (t a : List (List (List Int))) : FreshCall Try.prog 23 [.agg [.l3 t], .agg [.l3 a]] (laA t a) := by
  have ha := IsAction_ok t a
  unfold laA
  refine FreshCall.intro (n := 22) (rs := [.cell 4 43, .tmp 5]) Try.call23 Try.func23 rfl rfl rfl (by simp only [List.length_cons, List.length_nil]; omega) (fun cx hcx => ats_of ?_); simp only [argSlots, Nat.zero_add, Nat.reduceAdd]
  (repeat refine ats_seq ?_); refine ats_go (by first | exact fix0 hcx | exact fix1 hcx rfl) fun K hK => ?_; simp only [go_sem, seval]; refine hK _ ?_; clear hK K
  (repeat refine ats_seq ?_); refine ats_go (by first | exact fix0 hcx | exact fix1 hcx rfl) fun K hK => ?_; simp only [go_sem, seval]
  first | refine fcall_free rfl rfl (ha) ?_ | refine YR_intro (acall_free rfl rfl (ha)) ?_
  simp only [go_sem, seval]
  refine hK _ ?_; clear hK K
  (repeat refine ats_seq ?_); first | refine ats_ifn (p := _) rfl trivial (fun hc1 => ?_) (fun hc1 => ?_) | refine ats_ifp (p := _) rfl trivial (fun hc1 => ?_) (fun hc1 => ?_) | refine ats_cond rfl trivial (fun hc1 => ?_) (fun hc1 => ?_)
  · have e : ¬ isAct t a = true := fun h => hc1 (isAct_iff.1 h)
    (repeat refine ats_seq ?_); refine ats_go (by first | exact fix0 hcx | exact fix1 hcx rfl) fun K hK => ?_; simp only [go_sem, seval]; refine hK _ ?_; clear hK K
    rw [if_neg e]
    exact ats_ret (own2C (v := .agg [.nil]) (by simp only [go_sem, seval]) trivial rfl (by simp))
  · have e : isAct t a = true := isAct_iff.2 hc1
    obtain ⟨p1, p2, p3, p4, p5⟩ := act_mats e
    have hpt := points_ok a p4
    rw [if_pos e]
    refine ats_skip ?_
    (repeat refine ats_seq ?_); refine ats_go (by first | exact fix0 hcx | exact fix1 hcx rfl) fun K hK => ?_; simp only [go_sem, seval]
    first | refine fcall_data (hpt) rfl ?_ | refine YR_intro (acall_data (hpt) rfl) ?_
    simp only [go_sem, seval]
    refine hK _ ?_; clear hK K
    (repeat refine ats_seq ?_); first | refine ats_ifn (p := _) rfl trivial (fun hc2 => ?_) (fun hc2 => ?_) | refine ats_ifp (p := _) rfl trivial (fun hc2 => ?_) (fun hc2 => ?_) | refine ats_cond rfl trivial (fun hc2 => ?_) (fun hc2 => ?_)
    · have e2 : ¬ (a.getD 0 []).length ≤ 7 := by omega
      (repeat refine ats_seq ?_); refine ats_go (by first | exact fix0 hcx | exact fix1 hcx rfl) fun K hK => ?_; simp only [go_sem, seval]; refine hK _ ?_; clear hK K
      rw [if_neg e2]
      exact ats_ret (own2C (v := .agg [.nil]) (by simp only [go_sem, seval]) trivial rfl (by simp))
    · have e2 : (a.getD 0 []).length ≤ 7 := by omega
      have eo := eachOrder_ok 57 (a.getD 0 []).length p3 a (visI a (a.getD 0 []).length) (GoodB a.length (a.getD 0 []).length)
        (fun p s hl hq hn hs M hM => by
          cases s with
          | none => cases hM; exact reL_Sh
          | some M0 =>
            have h0 := hs M0 rfl
            simp only [visI] at hM
            split at hM
            · cases hM; exact reL_Sh
            · cases hM; exact h0)
        (fun p s hl hq hn hs => visit_ok a _ p ⟨hl, hq, hn⟩ p1 p3 p4 p5 s hs) (fun M hM => by cases hM)
      rw [least_same] at eo
      simp only [bxB, tlB, List.cons_append, List.nil_append] at eo
      rw [if_pos e2]
      refine ats_skip ?_
      (repeat refine ats_seq ?_); refine ats_go (by first | exact fix0 hcx | exact fix1 hcx rfl) fun K hK => ?_; simp only [go_sem, seval]; (repeat refine And.intro (by first | omega | (intro hq; first | omega | (simp at hq <;> omega) | (simp_all <;> omega))) ?_); refine hK _ ?_; clear hK K
      (repeat refine ats_seq ?_); refine ats_go (by first | exact fix0 hcx | exact fix1 hcx rfl) fun K hK => ?_; simp only [go_sem, seval]
      first | refine fcall_data (hpt) rfl ?_ | refine YR_intro (acall_data (hpt) rfl) ?_
      simp only [go_sem, seval]
      refine fcall_box (eo) (by simp [Aw.ids]) (by simp [find]) (by simp [closedT, killT, killAs, killA, outQ, Aw.ids]) (by simp [killAs, killA, outQ, Aw.ids]) (by simp [Aw.ids]) ?_; simp only [Aw.ids, List.map_cons, List.map_nil, List.filter_cons, List.filter_nil, List.contains_cons, List.contains_nil, Bool.or_false, Bool.or_true, Bool.not_true, Bool.not_false, Nat.reduceBEq, Bool.false_eq_true, if_true, if_false, List.cons_append, List.nil_append]; simp only [go_sem, seval]
      (repeat refine And.intro (by first | omega | (intro hq; first | omega | (simp at hq <;> omega) | (simp_all <;> omega))) ?_)
      refine hK _ ?_; clear hK K
      (repeat refine ats_seq ?_); refine ats_go (by first | exact fix0 hcx | exact fix1 hcx rfl) fun K hK => ?_; simp only [go_sem, seval]; (repeat refine And.intro (by first | omega | (intro hq; first | omega | (simp at hq <;> omega) | (simp_all <;> omega))) ?_); refine hK _ ?_; clear hK K
      exact ats_ret (own2C (v := .agg [.ref 8 []]) (by simp only [go_sem, seval]) trivial rfl (by simp))
end Go.Proofs.Ytkkgmjclfclaoaa
