import Derived.Test.YtppoaacplncppaaWx4
import Derived.Test.YtppoaacplncppaaPl2
set_option linter.unusedSimpArgs false
set_option linter.unusedVariables false
namespace Go.Proofs.Ytppoaacplncppaa
open Go Go.Aw Go.Pl
end Go.Proofs.Ytppoaacplncppaa
namespace Go.Proofs.Ytppoaacplncppaa
open Go Go.Aw Go.Pl
end Go.Proofs.Ytppoaacplncppaa
namespace Go.Proofs.Ytppoaacplncppaa
open Go Go.Aw Go.Pl
theorem l03Label_ok (t : List (List (List Int))) (h : t.length ≤ 16) (i : Int) : PureCall Try.prog 46 [.agg [.l3 t], .int i] (.bool (lblB t i)) := by
 refine PureCall.intro (n := 11) (rs := [.tmp 4]) Try.call46 Try.func46 rfl rfl rfl (by simp only [List.length_cons, List.length_nil]; omega) (fun cx hcx => ats_of ?_); simp only [argSlots, Nat.zero_add, Nat.reduceAdd]
 (repeat refine ats_seq ?_); refine ats_go (fix0 hcx) fun K hK => ?_; simp only [go_sem, seval]; refine hK _ ?_; clear hK K
 (repeat refine ats_seq ?_); refine ats_go (fix0 hcx) fun K hK => ?_; simp only [go_sem, seval]
 (repeat refine aI (hb := ?_))
 first | refine fcall_free rfl rfl (l01In_ok i 0 _) ?_ | refine YR_intro (acall_free rfl rfl (l01In_ok i 0 _)) ?_
 simp only [go_sem, seval]
 refine hK _ ?_; clear hK K
 refine ats_ret (finB rfl ?_)
 rfl
theorem isLabel_ok (t : List (List (List Int))) (h : t.length ≤ 16) (i : Int) : PureCall Try.prog 42 [.agg [.l3 t], .int i] (.bool (lblB t i)) := by
 refine PureCall.intro (n := 11) (rs := [.tmp 4]) Try.call42 Try.func42 rfl rfl rfl (by simp only [List.length_cons, List.length_nil]; omega) (fun cx hcx => ats_of ?_); simp only [argSlots, Nat.zero_add, Nat.reduceAdd]
 (repeat refine ats_seq ?_); refine ats_go (fix0 hcx) fun K hK => ?_; simp only [go_sem, seval]; refine hK _ ?_; clear hK K
 (repeat refine ats_seq ?_); refine ats_go (fix0 hcx) fun K hK => ?_; simp only [go_sem, seval]
 (repeat refine aI (hb := ?_))
 first | refine fcall_free rfl rfl (within_ok i 0 _) ?_ | refine YR_intro (acall_free rfl rfl (within_ok i 0 _)) ?_
 simp only [go_sem, seval]
 refine hK _ ?_; clear hK K
 refine ats_ret (finB rfl ?_)
 rfl
end Go.Proofs.Ytppoaacplncppaa
