import Derived.Test.YtkdadpdmnmjikaaDx1
import Derived.Test.YtkdadpdmnmjikaaDk
import Derived.Test.YtkdadpdmnmjikaaHd
set_option linter.unusedSimpArgs false
set_option linter.unusedVariables false
namespace Go.Proofs.Ytkdadpdmnmjikaa
open Go Go.Aw Go.Pl
attribute [local go_sem] pl_fin pl_stop pl_one pl_alt PK_ap pickO List.getElem?_toArray List.getElem?_cons_zero List.getElem?_cons_succ
attribute [go_sem] Try.underlying38
theorem ring_ok (s : List (List Int)) (t c : List Int) (hs : Shape s t) (hc : cj s t = some c) : FreshCall Try.prog 45 [.agg [.l2 s, .l1 t]] (.agg [.l3 (numD s t.length c)]) := by
 have hJ := conjugation_ok s t hs
 rw [hc] at hJ
 simp only [optA] at hJ
 obtain ⟨lc, hC⟩ := cj_in hc
 have hF := fusion_ok s t c hs lc hC
 refine FreshCall.intro (n := 13) (rs := [.cell 2 38]) Try.call45 Try.func45 rfl rfl rfl (by simp only [List.length_cons, List.length_nil]; omega) (fun cx hcx => ats_of ?_); simp only [argSlots, Nat.zero_add, Nat.reduceAdd]
 refine gA ?_
 (repeat refine ats_seq ?_)
 refine ats_plan2 [3] (.one 0 (.one 1 (.one 2 (.alt 3 (.one 4 (.one 5 (.alt 6 (.alt 7 (.alt 8 (.one 9 .fin) .stop) .stop) (.alt 7 (.alt 6 (.alt 8 (.one 9 .fin) .stop) (.alt 8 (.one 6 (.one 9 .fin)) .stop)) .stop)))) (.alt 7 (.alt 3 (.one 4 (.one 5 (.alt 6 (.alt 8 (.one 9 .fin) .stop) (.alt 8 (.one 6 (.one 9 .fin)) .stop)))) .stop) .stop))))) ⟨[(1, .bptr 0 0), (2, .bptr 1 0), (3, .bptr 3 0)], [(2, .t3 (numD s t.length c)), (0, .bx [.l2 s, .l1 t]), (1, .bx [.nil]), (3, .bx [.ref 2 []])]⟩ ⟨[(1, .bptr 0 0), (2, .bptr 1 0), (3, .bptr 2 0)], [(3, .t3 (numD s t.length c)), (0, .bx [.l2 s, .l1 t]), (1, .bx [.nil]), (2, .bx [.ref 3 []])]⟩ (fix0 hcx) mixed (by kernel_rfl) (fun K hK hK2 => ?_) ?_ ?_
 ·simp only [go_sem, seval, Option.getD_some, and_true, true_and, and_self, List.contains_cons, List.contains_nil, Bool.or_false, Bool.or_true]
  repeat' (first | exact hK _ (by refine And.intro ?_ rfl; simp only [leS, Nat.reduceEqDiff, ↓reduceIte, true_and, and_true])  | exact hK2 _ (by refine And.intro ?_ rfl; simp only [leS, Nat.reduceEqDiff, ↓reduceIte, true_and, and_true]) | with_reducible refine And.intro ?_ ?_ | omega | ((first | refine fcall_fresh rfl (hJ) ?_ | refine YR_intro (acall_fresh rfl (hJ)) ?_); simp only [go_sem, seval, Option.getD_some, and_true, true_and, and_self, List.contains_cons, List.contains_nil, Bool.or_false, Bool.or_true]) | (refine fcall_own rfl (hF) rfl ?_; simp only [go_sem, seval, Option.getD_some, and_true, true_and, and_self, List.contains_cons, List.contains_nil, Bool.or_false, Bool.or_true]))
 ·refine gA ?_
  exact ats_ret (ownC (v := .agg [.ref 2 []]) (by simp only [go_sem, seval]) rfl (by simp))
 ·refine gA ?_
  exact ats_ret (ownC (v := .agg [.ref 3 []]) (by simp only [go_sem, seval]) rfl (by simp))
end Go.Proofs.Ytkdadpdmnmjikaa
namespace Go.Proofs.Ytkdadpdmnmjikaa
open Go Go.Aw Go.Pl
end Go.Proofs.Ytkdadpdmnmjikaa
namespace Go.Proofs.Ytkdadpdmnmjikaa
open Go Go.Aw Go.Pl
noncomputable def rgA (s : List (List Int)) (t : List Int) : AV := if isData s t then .tup [.agg [.l3 (numD s t.length (cL s t.length))], .int 0] else .tup [.agg [.nil], .int 1]
theorem implRg_ok (s : List (List Int)) (t : List Int) : FreshCall Try.prog 16 [.agg [.l2 s, .l1 t]] (rgA s t) := by
 have hk := IsData_ok s t
 unfold rgA
 refine FreshCall.intro (n := 10) (rs := [.cell 2 38, .tmp 3]) Try.call16 Try.func16 rfl rfl rfl (by simp only [List.length_cons, List.length_nil]; omega) (fun cx hcx => ats_of ?_); simp only [argSlots, Nat.zero_add, Nat.reduceAdd]
 refine gA ?_
 cases h : isData s t with
 | false =>
  rw [h] at hk
  refine gC fun K hK => ?_
  first | refine fcall_free rfl rfl (hk) ?_ | refine YR_intro (acall_free rfl rfl (hk)) ?_
  simp only [go_sem, seval]
  refine hK _ ?_; clear hK K
  (repeat refine ats_seq ?_); refine ats_yes rfl trivial ?_
  refine gA ?_
  exact ats_ret (own2C (v := .agg [.nil]) (by simp only [go_sem, seval]) trivial rfl (by simp))
 | true =>
  obtain ⟨hs, hst, hw, c, hc, hT, hR⟩ := isData_some h
  have hr := ring_ok s t c hs hc
  obtain ⟨rfl, -⟩ := cj_get hc
  rw [h] at hk
  refine gC fun K hK => ?_
  first | refine fcall_free rfl rfl (hk) ?_ | refine YR_intro (acall_free rfl rfl (hk)) ?_
  simp only [go_sem, seval]
  refine hK _ ?_; clear hK K
  (repeat refine ats_seq ?_); refine ats_no rfl trivial ?_
  refine ats_skip ?_
  refine gC fun K hK => ?_
  refine fcall_own rfl (hr) rfl ?_; simp only [go_sem, seval]
  refine hK _ ?_; clear hK K
  exact ats_ret (own2C (v := .agg [.ref 2 []]) (by simp only [go_sem, seval]) trivial rfl (by simp))
end Go.Proofs.Ytkdadpdmnmjikaa
