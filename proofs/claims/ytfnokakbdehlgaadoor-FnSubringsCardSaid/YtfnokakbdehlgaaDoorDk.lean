import Derived.Test.YtfnokakbdehlgaaDoorWx1
import Derived.Test.YtfnokakbdehlgaaDoorBr
import Derived.Test.YtfnokakbdehlgaaDoorLib5
set_option linter.unusedSimpArgs false
set_option linter.unusedVariables false
namespace Go.Proofs.YtfnokakbdehlgaaDoor
open Go Go.Aw Go.Pl
def szD (s : List (List Int)) (t : List Int) (l : Int) : Int := if sz2 s l < 0 then -1 else sz1 t (sz2 s l)
def SmallD (s : List (List Int)) (t : List Int) : Prop := (s.length ≤ 1099511627776 ∧ ∀ x ∈ s, x.length ≤ 1099511627776) ∧ t.length ≤ 1099511627776
def totD (s : List (List Int)) (t : List Int) : Nat := tot List.length s + t.length
section
variable {H : Type} {enc : TypeId × Value → H} {W : World} {base : Nat} {v : Value} {d : DataW H} {p : List MemPlace}
end
end Go.Proofs.YtfnokakbdehlgaaDoor
