import Derived.Test.YtmjcbgpbhlheoaaQd5
import Derived.Test.YtmjcbgpbhlheoaaEx1
import Derived.Test.YtmjcbgpbhlheoaaJz4
import Derived.Test.YtmjcbgpbhlheoaaMz3
import Derived.Test.YtmjcbgpbhlheoaaWz1
set_option linter.unusedSimpArgs false
set_option linter.unusedVariables false
namespace Go.Proofs.Ytmjcbgpbhlheoaa
open Go Go.Aw Go.Pl
end Go.Proofs.Ytmjcbgpbhlheoaa
namespace Go.Proofs.Ytmjcbgpbhlheoaa
open Go Go.Aw Go.Pl
end Go.Proofs.Ytmjcbgpbhlheoaa
namespace Go.Proofs.Ytmjcbgpbhlheoaa
open Go Go.Aw Go.Pl
end Go.Proofs.Ytmjcbgpbhlheoaa
namespace Go.Proofs.Ytmjcbgpbhlheoaa
open Go Go.Aw Go.Pl
theorem implPtd_ok (t : Cu) : PureCall Try.prog 9 [.agg [.l3 t]] (.tup [.bool (isRing t && decide ((lbI t.length (unS t)).length = t.length)), .int (if isRing t = true then 0 else 1)]) := by
 have h0 := implIl_ok t
 unfold ilR at h0
 cases hr : isRing t with
 | false =>
  rw [hr] at h0
  have h0 : FreshCall Try.prog 33 [.agg [.l3 t]] (.tup [.nil, .int 1]) := h0
  refine PureCall.intro (n := 22) (rs := [.tmp 2, .tmp 3]) Try.call9 Try.func9 rfl rfl rfl (by simp only [List.length_cons, List.length_nil]; omega) (fun cx hcx => ats_of ?_); simp only [argSlots, Nat.zero_add, Nat.reduceAdd]
  refine gB ?_
  refine gC fun K hK => ?_
  first | refine fcall_fresh rfl (h0) ?_ | refine YR_intro (acall_fresh rfl (h0)) ?_
  simp only [go_sem, seval]
  refine hK _ ?_; clear hK K
  refine gB ?_
  exact ats_ret (fin2 trivial trivial rfl)
 | true =>
  rw [hr] at h0
  have h16 := (isRing_P hr).cube.2.1
  generalize lbI t.length (unS t) = L at *
  have h0 : FreshCall Try.prog 33 [.agg [.l3 t]] (.tup [.l1 L, .int 0]) := h0
  have e : decide (L.length = t.length) = decide ((L.length : Int) = (t.length : Int)) := by rw [decide_eq_decide]; omega
  rw [e]
  refine PureCall.intro (n := 22) (rs := [.tmp 2, .tmp 3]) Try.call9 Try.func9 rfl rfl rfl (by simp only [List.length_cons, List.length_nil]; omega) (fun cx hcx => ats_of ?_); simp only [argSlots, Nat.zero_add, Nat.reduceAdd]
  refine gB ?_
  refine gC fun K hK => ?_
  first | refine fcall_fresh rfl (h0) ?_ | refine YR_intro (acall_fresh rfl (h0)) ?_
  simp only [go_sem, seval]
  refine hK _ ?_; clear hK K
  refine gB ?_
  exact ats_ret (fin2 trivial trivial rfl)
end Go.Proofs.Ytmjcbgpbhlheoaa
