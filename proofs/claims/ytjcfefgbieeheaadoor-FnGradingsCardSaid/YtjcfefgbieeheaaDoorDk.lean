import Derived.Test.YtjcfefgbieeheaaDoorWx1
import Derived.Test.YtjcfefgbieeheaaDoorBr
import Derived.Test.YtjcfefgbieeheaaDoorLib5
set_option linter.unusedSimpArgs false
set_option linter.unusedVariables false
namespace Go.Proofs.YtjcfefgbieeheaaDoor
open Go Go.Aw Go.Pl
section
variable {H : Type} {enc : TypeId × Value → H} {W : World} {base : Nat} {v : Value} {d : DataW H} {p : List MemPlace}
end
end Go.Proofs.YtjcfefgbieeheaaDoor
