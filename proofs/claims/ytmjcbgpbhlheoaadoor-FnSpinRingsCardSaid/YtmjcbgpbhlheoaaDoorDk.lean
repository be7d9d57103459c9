import Derived.Test.YtmjcbgpbhlheoaaDoorWx1
import Derived.Test.YtmjcbgpbhlheoaaDoorBr
import Derived.Test.YtmjcbgpbhlheoaaDoorLib5
set_option linter.unusedSimpArgs false
set_option linter.unusedVariables false
namespace Go.Proofs.YtmjcbgpbhlheoaaDoor
open Go Go.Aw Go.Pl
section
variable {H : Type} {enc : TypeId × Value → H} {W : World} {base : Nat} {v : Value} {d : DataW H} {p : List MemPlace}
end
end Go.Proofs.YtmjcbgpbhlheoaaDoor
