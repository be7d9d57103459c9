import Derived.Test.YtfnokakbdehlgaaDoorKp2
import Derived.Test.YtfnokakbdehlgaaDoorWx2
import Derived.Test.YtfnokakbdehlgaaDoorWx3
import Derived.Test.YtfnokakbdehlgaaDoorEx1
import Derived.Test.YtfnokakbdehlgaaDoorWz1
import Derived.Test.YtfnokakbdehlgaaDoorFz1
import Derived.Test.YtfnokakbdehlgaaDoorHd
set_option linter.unusedSimpArgs false
set_option linter.unusedVariables false
namespace Go.Proofs.YtfnokakbdehlgaaDoor
open Go Go.Aw Go.Pl
end Go.Proofs.YtfnokakbdehlgaaDoor
namespace Go.Proofs.YtfnokakbdehlgaaDoor
open Go Go.Aw Go.Pl
theorem vectorOf_ok (t : Cu) (h16 : t.length ≤ 16) (i : Nat) (hi : i < t.length) : FreshCall Tryd.prog 108 [.agg [.l3 t], .int i] (.l1 (oneV t.length i)) := by
 have lz : (List.replicate t.length (0 : Int)).length = t.length := List.length_replicate
 refine FreshCall.intro (n := 14) (rs := [.tmp 4]) Tryd.call108 Tryd.func108 rfl rfl rfl (by simp only [List.length_cons, List.length_nil]; omega) (fun cx hcx => ats_of ?_); simp only [argSlots, Nat.zero_add, Nat.reduceAdd]
 refine gB ?_
 refine gB ?_
 refine gB ?_
 refine gB ?_
 exact ats_ret (ownV (is := [1]) rfl ⟨rfl, trivial⟩ rfl (by simp))
end Go.Proofs.YtfnokakbdehlgaaDoor
namespace Go.Proofs.YtfnokakbdehlgaaDoor
open Go Go.Aw Go.Pl
end Go.Proofs.YtfnokakbdehlgaaDoor
