import Derived.Test.YtdlmmmklahajgaaWo
set_option linter.unusedSimpArgs false
set_option linter.unusedVariables false
namespace Go.Proofs.Ytdlmmmklahajgaa
open Go Go.Aw Go.Pl

theorem l09Point_ok (a : List (List (List Int))) (h : 0 < a.length) (hm : (a.getD 0 []).length ≤ 16) (x : Int) : PureCall Try.prog 41 [.agg [.l3 a], .int x] (.bool (ptB a x)) := by
  refine PureCall.intro (n := 10) (rs := [.tmp 4]) Try.call41 Try.func41 rfl rfl rfl (by simp only [List.length_cons, List.length_nil]; omega) (fun cx hcx => ats_of ?_); simp only [argSlots, Nat.zero_add, Nat.reduceAdd]
  (repeat refine ats_seq ?_); refine ats_go (by first | exact fix0 hcx | exact fix1 hcx rfl) fun K hK => ?_; simp only [go_sem, seval]; refine hK _ ?_; clear hK K
  (repeat refine ats_seq ?_); refine ats_go (by first | exact fix0 hcx | exact fix1 hcx rfl) fun K hK => ?_; simp only [go_sem, seval]
  first | refine fcall_free rfl rfl (l09Size_ok a h) ?_ | refine YR_intro (acall_free rfl rfl (l09Size_ok a h)) ?_
  simp only [go_sem, seval]
  (repeat refine And.intro (by first | omega | (intro hq; first | omega | (simp at hq <;> omega) | (simp_all <;> omega))) ?_)
  first | refine fcall_free rfl rfl (l01In_ok x 0 _) ?_ | refine YR_intro (acall_free rfl rfl (l01In_ok x 0 _)) ?_
  simp only [go_sem, seval]
  refine hK _ ?_; clear hK K
  refine ats_ret (finB rfl ?_)
  rfl
theorem isPoint_ok (a : List (List (List Int))) (h : 0 < a.length) (hm : (a.getD 0 []).length ≤ 16) (x : Int) : PureCall Try.prog 43 [.agg [.l3 a], .int x] (.bool (ptB a x)) := by
  refine PureCall.intro (n := 10) (rs := [.tmp 4]) Try.call43 Try.func43 rfl rfl rfl (by simp only [List.length_cons, List.length_nil]; omega) (fun cx hcx => ats_of ?_); simp only [argSlots, Nat.zero_add, Nat.reduceAdd]
  (repeat refine ats_seq ?_); refine ats_go (by first | exact fix0 hcx | exact fix1 hcx rfl) fun K hK => ?_; simp only [go_sem, seval]; refine hK _ ?_; clear hK K
  (repeat refine ats_seq ?_); refine ats_go (by first | exact fix0 hcx | exact fix1 hcx rfl) fun K hK => ?_; simp only [go_sem, seval]
  first | refine fcall_free rfl rfl (points_ok a h) ?_ | refine YR_intro (acall_free rfl rfl (points_ok a h)) ?_
  simp only [go_sem, seval]
  (repeat refine And.intro (by first | omega | (intro hq; first | omega | (simp at hq <;> omega) | (simp_all <;> omega))) ?_)
  first | refine fcall_free rfl rfl (within_ok x 0 _) ?_ | refine YR_intro (acall_free rfl rfl (within_ok x 0 _)) ?_
  simp only [go_sem, seval]
  refine hK _ ?_; clear hK K
  refine ats_ret (finB rfl ?_)
  rfl

end Go.Proofs.Ytdlmmmklahajgaa
