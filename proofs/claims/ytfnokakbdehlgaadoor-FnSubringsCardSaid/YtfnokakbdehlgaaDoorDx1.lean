import Derived.Test.YtfnokakbdehlgaaDoorDz1
set_option linter.unusedSimpArgs false
set_option linter.unusedVariables false
namespace Go.Proofs.YtfnokakbdehlgaaDoor
open Go Go.Aw Go.Pl
noncomputable def faultQ (s : List (List Int)) (t : List Int) : Int × Int := if bd (Shape s t) then (if dF s t < 0 then (0, 4) else (dF s t, 0)) else (0, 1)
noncomputable def wholeA (s : List (List Int)) (t : List Int) : Int × Int := if isData s t then (wholeD s t.length, 0) else (0, 1)
end Go.Proofs.YtfnokakbdehlgaaDoor
namespace Go.Proofs.YtfnokakbdehlgaaDoor
open Go Go.Aw Go.Pl
noncomputable def centA (s : List (List Int)) (t : List Int) : Int × Int := if isData s t then (gaussD s t t.length * inv (gaussD s (ivF t) t.length) % 55441, 0) else (0, 1)
end Go.Proofs.YtfnokakbdehlgaaDoor
namespace Go.Proofs.YtfnokakbdehlgaaDoor
open Go Go.Aw Go.Pl
def inC (t : List Int) (a : Int) : Bool := decide (0 ≤ a) && decide (a ≤ (t.length : Int) - 1)
noncomputable def chg (s : List (List Int)) (t : List Int) (a : Int) : Int := if isData s t then (if inC t a then 0 else 2) else 1
noncomputable def gsA (s : List (List Int)) (t : List Int) (g : Int) : Int × Int := if isData s t then (if g = 1 then (gaussD s t t.length, 0) else if g = -1 then (gaussD s (ivF t) t.length, 0) else (0, 2)) else (0, 1)
end Go.Proofs.YtfnokakbdehlgaaDoor
namespace Go.Proofs.YtfnokakbdehlgaaDoor
open Go Go.Aw Go.Pl
noncomputable def monA (s : List (List Int)) (t : List Int) (a b : Int) : Int × Int := if isData s t then (if inC t a && inC t b then (e2 s a.toNat b.toNat * inv (e2 s 0 a.toNat) % 55441 * inv (e2 s 0 b.toNat) % 55441, 0) else (0, 2)) else (0, 1)
end Go.Proofs.YtfnokakbdehlgaaDoor
