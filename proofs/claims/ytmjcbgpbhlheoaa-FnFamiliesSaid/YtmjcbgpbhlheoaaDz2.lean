import Derived.Test.YtmjcbgpbhlheoaaDx1
import Derived.Test.YtmjcbgpbhlheoaaDk
import Derived.Test.YtmjcbgpbhlheoaaHd
set_option linter.unusedSimpArgs false
set_option linter.unusedVariables false
namespace Go.Proofs.Ytmjcbgpbhlheoaa
open Go Go.Aw Go.Pl
attribute [go_sem] Try.underlying28
end Go.Proofs.Ytmjcbgpbhlheoaa
namespace Go.Proofs.Ytmjcbgpbhlheoaa
open Go Go.Aw Go.Pl
theorem clone_ok (xs : List Int) (h1 : 0 < xs.length) (hl : xs.length ≤ 1099511627776) : FreshCall Try.prog 78 [.l1 xs] (.l1 xs) := by
 refine FreshCall.intro (n := 8) (rs := [.tmp 2]) Try.call78 Try.func78 rfl rfl rfl (by simp only [List.length_cons, List.length_nil]; omega) (fun cx hcx => ats_of ?_); simp only [argSlots, Nat.zero_add, Nat.reduceAdd]
 refine gA ?_
 refine gB ?_
 (repeat refine ats_seq ?_); refine ats_no rfl trivial ?_
 refine ats_skip ?_
 refine gC fun K hK => ?_
 (repeat refine aI (hb := ?_))
 refine hK _ ?_; clear hK K
 exact ats_ret (ownV (is := [0]) rfl ⟨rfl, trivial⟩ rfl (by simp))
end Go.Proofs.Ytmjcbgpbhlheoaa
namespace Go.Proofs.Ytmjcbgpbhlheoaa
open Go Go.Aw Go.Pl
end Go.Proofs.Ytmjcbgpbhlheoaa
