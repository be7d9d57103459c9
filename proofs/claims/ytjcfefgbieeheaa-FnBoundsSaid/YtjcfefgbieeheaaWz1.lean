import Derived.Test.YtjcfefgbieeheaaWx4
import Derived.Test.YtjcfefgbieeheaaPl2
set_option linter.unusedSimpArgs false
set_option linter.unusedVariables false
namespace Go.Proofs.Ytjcfefgbieeheaa
open Go Go.Aw Go.Pl
end Go.Proofs.Ytjcfefgbieeheaa
namespace Go.Proofs.Ytjcfefgbieeheaa
open Go Go.Aw Go.Pl
end Go.Proofs.Ytjcfefgbieeheaa
namespace Go.Proofs.Ytjcfefgbieeheaa
open Go Go.Aw Go.Pl
theorem l03Label_ok (t : List (List (List Int))) (h : t.length ≤ 16) (i : Int) : PureCall Try.prog 66 [.agg [.l3 t], .int i] (.bool (lblB t i)) := by
 refine PureCall.intro (n := 11) (rs := [.tmp 4]) Try.call66 Try.func66 rfl rfl rfl (by simp only [List.length_cons, List.length_nil]; omega) (fun cx hcx => ats_of ?_); simp only [argSlots, Nat.zero_add, Nat.reduceAdd]
 refine gA ?_
 refine gC fun K hK => ?_
 (repeat refine aI (hb := ?_))
 first | refine fcall_free rfl rfl (l01In_ok i 0 _) ?_ | refine YR_intro (acall_free rfl rfl (l01In_ok i 0 _)) ?_
 simp only [go_sem, seval]
 refine hK _ ?_; clear hK K
 refine ats_ret (finB rfl ?_)
 rfl
theorem isLabel_ok (t : List (List (List Int))) (h : t.length ≤ 16) (i : Int) : PureCall Try.prog 62 [.agg [.l3 t], .int i] (.bool (lblB t i)) := by
 refine PureCall.intro (n := 11) (rs := [.tmp 4]) Try.call62 Try.func62 rfl rfl rfl (by simp only [List.length_cons, List.length_nil]; omega) (fun cx hcx => ats_of ?_); simp only [argSlots, Nat.zero_add, Nat.reduceAdd]
 refine gA ?_
 refine gC fun K hK => ?_
 (repeat refine aI (hb := ?_))
 first | refine fcall_free rfl rfl (within_ok i 0 _) ?_ | refine YR_intro (acall_free rfl rfl (within_ok i 0 _)) ?_
 simp only [go_sem, seval]
 refine hK _ ?_; clear hK K
 refine ats_ret (finB rfl ?_)
 rfl
end Go.Proofs.Ytjcfefgbieeheaa
