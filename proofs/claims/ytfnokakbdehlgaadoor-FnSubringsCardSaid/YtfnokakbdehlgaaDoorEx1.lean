import Derived.Test.YtfnokakbdehlgaaDoorPl3
import Derived.Test.YtfnokakbdehlgaaDoorLib6
import Derived.Test.YtfnokakbdehlgaaDoorWz1
import Derived.Test.YtfnokakbdehlgaaDoorDz2
set_option linter.unusedSimpArgs false
set_option linter.unusedVariables false
namespace Go.Proofs.YtfnokakbdehlgaaDoor
open Go Go.Aw Go.Pl
def rpL (m k : Nat) : List Int := List.replicate k (-1) ++ List.replicate (m - k) 0
def mx (xs : List Int) : Nat → Int
 | 0 => xs.getD 0 0
 | k + 1 => max (mx xs k) (xs.getD (k + 1) 0)
end Go.Proofs.YtfnokakbdehlgaaDoor
namespace Go.Proofs.YtfnokakbdehlgaaDoor
open Go Go.Aw Go.Pl
end Go.Proofs.YtfnokakbdehlgaaDoor
namespace Go.Proofs.YtfnokakbdehlgaaDoor
open Go Go.Aw Go.Pl
end Go.Proofs.YtfnokakbdehlgaaDoor
namespace Go.Proofs.YtfnokakbdehlgaaDoor
open Go Go.Aw Go.Pl
def oneB (xs : List Int) : Bool := !xs.any fun v => !decide (v = 0)
noncomputable def idB (t a : List (List (List Int))) : Bool := isAct t a && oneB (partsL a)
noncomputable def idC (t a : List (List (List Int))) : Int := if isAct t a = true then 0 else 1
end Go.Proofs.YtfnokakbdehlgaaDoor
