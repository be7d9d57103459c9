import Derived.Test.YtmjcbgpbhlheoaaKp2
import Derived.Test.YtmjcbgpbhlheoaaWx2
import Derived.Test.YtmjcbgpbhlheoaaWx3
import Derived.Test.YtmjcbgpbhlheoaaEx1
import Derived.Test.YtmjcbgpbhlheoaaWz1
import Derived.Test.YtmjcbgpbhlheoaaFz1
import Derived.Test.YtmjcbgpbhlheoaaHd
set_option linter.unusedSimpArgs false
set_option linter.unusedVariables false
namespace Go.Proofs.Ytmjcbgpbhlheoaa
open Go Go.Aw Go.Pl
end Go.Proofs.Ytmjcbgpbhlheoaa
namespace Go.Proofs.Ytmjcbgpbhlheoaa
open Go Go.Aw Go.Pl
theorem vectorOf_ok (t : Cu) (h16 : t.length ≤ 16) (i : Nat) (hi : i < t.length) : FreshCall Try.prog 74 [.agg [.l3 t], .int i] (.l1 (oneV t.length i)) := by
 have lz : (List.replicate t.length (0 : Int)).length = t.length := List.length_replicate
 refine FreshCall.intro (n := 14) (rs := [.tmp 4]) Try.call74 Try.func74 rfl rfl rfl (by simp only [List.length_cons, List.length_nil]; omega) (fun cx hcx => ats_of ?_); simp only [argSlots, Nat.zero_add, Nat.reduceAdd]
 refine gB ?_
 refine gB ?_
 refine gB ?_
 refine gB ?_
 exact ats_ret (ownV (is := [1]) rfl ⟨rfl, trivial⟩ rfl (by simp))
end Go.Proofs.Ytmjcbgpbhlheoaa
namespace Go.Proofs.Ytmjcbgpbhlheoaa
open Go Go.Aw Go.Pl
theorem implCm_ok (t : Cu) : PureCall Try.prog 10 [.agg [.l3 t]] (.tup [.bool (isRing t && bd (CommP t)), .int (if isRing t then 0 else 1)]) := by
 have hR := IsRing_ok t
 refine PureCall.intro (n := 9) (rs := [.tmp 2, .tmp 3]) Try.call10 Try.func10 rfl rfl rfl (by simp only [List.length_cons, List.length_nil]; omega) (fun cx hcx => ats_of ?_); simp only [argSlots, Nat.zero_add, Nat.reduceAdd]
 refine gB ?_
 cases hr : isRing t with
 | false =>
  rw [hr] at hR
  simp only [Bool.false_eq_true, if_false, Bool.false_and]
  refine gC fun K hK => ?_
  first | refine fcall_data (hR) rfl ?_ | refine YR_intro (acall_data (hR) rfl) ?_
  simp only [go_sem, seval]
  refine hK _ ?_; clear hK K
  (repeat refine ats_seq ?_); refine ats_yes rfl trivial ?_
  refine gB ?_
  exact ats_ret (fin2 trivial trivial rfl)
 | true =>
  rw [hr] at hR
  have hc := (isRing_true hr).1
  have hO := isComm_ok t hc
  simp only [if_true, Bool.true_and]
  refine gC fun K hK => ?_
  first | refine fcall_data (hR) rfl ?_ | refine YR_intro (acall_data (hR) rfl) ?_
  simp only [go_sem, seval]
  refine hK _ ?_; clear hK K
  (repeat refine ats_seq ?_); refine ats_no rfl trivial ?_
  refine ats_skip ?_
  refine gC fun K hK => ?_
  first | refine fcall_data (hO) rfl ?_ | refine YR_intro (acall_data (hO) rfl) ?_
  simp only [go_sem, seval]
  refine hK _ ?_; clear hK K
  exact ats_ret (fin2 trivial trivial rfl)
end Go.Proofs.Ytmjcbgpbhlheoaa
