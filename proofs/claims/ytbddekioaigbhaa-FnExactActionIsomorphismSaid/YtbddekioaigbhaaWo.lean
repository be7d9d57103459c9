import Derived.Test.YtbddekioaigbhaaWn
set_option linter.unusedSimpArgs false
set_option linter.unusedVariables false
namespace Go.Proofs.Ytbddekioaigbhaa
open Go Go.Aw Go.Pl

theorem l09Size_ok (a : List (List (List Int))) (h : 0 < a.length) : PureCall Try.prog 32 [.agg [.l3 a]] (.int (a.getD 0 []).length) := by
  refine PureCall.intro (n := 8) (rs := [.tmp 2]) Try.call32 Try.func32 rfl rfl rfl (by simp only [List.length_cons, List.length_nil]; omega) (fun cx hcx => ats_of ?_); simp only [argSlots, Nat.zero_add, Nat.reduceAdd]
  (repeat refine ats_seq ?_); refine ats_go (fix0 hcx) fun K hK => ?_; simp only [go_sem, seval]; refine hK _ ?_; clear hK K
  (repeat refine ats_seq ?_); refine ats_go (fix0 hcx) fun K hK => ?_; simp only [go_sem, seval]; (repeat refine And.intro (by first | omega | (intro hq; first | omega | (simp at hq <;> omega) | (simp_all <;> omega))) ?_); refine hK _ ?_; clear hK K
  refine ats_ret (finI rfl ?_)
  rfl
theorem points_ok (a : List (List (List Int))) (h : 0 < a.length) : PureCall Try.prog 22 [.agg [.l3 a]] (.int (a.getD 0 []).length) := by
  refine PureCall.intro (n := 8) (rs := [.tmp 2]) Try.call22 Try.func22 rfl rfl rfl (by simp only [List.length_cons, List.length_nil]; omega) (fun cx hcx => ats_of ?_); simp only [argSlots, Nat.zero_add, Nat.reduceAdd]
  (repeat refine ats_seq ?_); refine ats_go (fix0 hcx) fun K hK => ?_; simp only [go_sem, seval]; refine hK _ ?_; clear hK K
  (repeat refine ats_seq ?_); refine ats_go (fix0 hcx) fun K hK => ?_; simp only [go_sem, seval]; (repeat refine And.intro (by first | omega | (intro hq; first | omega | (simp at hq <;> omega) | (simp_all <;> omega))) ?_); refine hK _ ?_; clear hK K
  refine ats_ret (finI rfl ?_)
  rfl

end Go.Proofs.Ytbddekioaigbhaa
