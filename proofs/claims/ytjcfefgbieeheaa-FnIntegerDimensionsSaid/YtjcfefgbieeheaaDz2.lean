import Derived.Test.YtjcfefgbieeheaaDx1
import Derived.Test.YtjcfefgbieeheaaDk
import Derived.Test.YtjcfefgbieeheaaHd
set_option linter.unusedSimpArgs false
set_option linter.unusedVariables false
namespace Go.Proofs.Ytjcfefgbieeheaa
open Go Go.Aw Go.Pl
attribute [go_sem] Try.underlying26
end Go.Proofs.Ytjcfefgbieeheaa
namespace Go.Proofs.Ytjcfefgbieeheaa
open Go Go.Aw Go.Pl
theorem l01Own_ok (xs : List Int) (hl : xs.length ≤ 1099511627776) : FreshCall Try.prog 146 [.l1 xs] (.l1 xs) := by
 refine FreshCall.intro (n := 6) (rs := [.tmp 2]) Try.call146 Try.func146 rfl rfl rfl (by simp only [List.length_cons, List.length_nil]; omega) (fun cx hcx => ats_of ?_); simp only [argSlots, Nat.zero_add, Nat.reduceAdd]
 refine gA ?_
 refine gC fun K hK => ?_
 (repeat refine aI (hb := ?_))
 refine hK _ ?_; clear hK K
 exact ats_ret (ownV (is := [0]) rfl ⟨rfl, trivial⟩ rfl (by simp))
end Go.Proofs.Ytjcfefgbieeheaa
namespace Go.Proofs.Ytjcfefgbieeheaa
open Go Go.Aw Go.Pl
end Go.Proofs.Ytjcfefgbieeheaa
