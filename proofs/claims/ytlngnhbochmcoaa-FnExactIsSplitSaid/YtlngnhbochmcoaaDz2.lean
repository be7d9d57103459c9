import Derived.Test.YtlngnhbochmcoaaDx1
import Derived.Test.YtlngnhbochmcoaaDk
import Derived.Test.YtlngnhbochmcoaaHy1
set_option linter.unusedSimpArgs false
set_option linter.unusedVariables false
namespace Go.Proofs.Ytlngnhbochmcoaa
open Go Go.Aw Go.Pl
attribute [go_sem] Try.underlying28
open Go.Pl
theorem wP_ (xs : List Int) (hl : xs.length ≤ 1099511627776) : FreshCall Try.prog 30 [.l1 xs] (.l1 xs) := by
 refine gFC 6 [.tmp 2] Try.call30 Try.func30 fun cx hcx => gE ?_
 refine gA ?_
 refine gC fun K hK => ?_
 refine gU ?_
 refine hK _ ?_; clear hK K
 exact xd_ (Xl_ (is := [0]) rfl ⟨rfl, trivial⟩ rfl (by simp))
theorem X2_ (xs : List Int) (h1 : 0 < xs.length) (hl : xs.length ≤ 1099511627776) : FreshCall Try.prog 37 [.l1 xs] (.l1 xs) := by
 refine gFC 8 [.tmp 2] Try.call37 Try.func37 fun cx hcx => gE ?_
 refine gA ?_
 refine gB ?_
 refine gQ ?_
 refine xb_ ?_
 refine gC fun K hK => ?_
 refine gU ?_
 refine hK _ ?_; clear hK K
 exact xd_ (Xl_ (is := [0]) rfl ⟨rfl, trivial⟩ rfl (by simp))
end Go.Proofs.Ytlngnhbochmcoaa
