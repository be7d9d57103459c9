import Derived.Test.YtjbdiekkjegckaaGreatWx1
import Derived.Test.YtjbdiekkjegckaaGreatBr
import Derived.Test.YtjbdiekkjegckaaGreatLib5
set_option linter.unusedSimpArgs false
set_option linter.unusedVariables false
namespace Go.Proofs.YtjbdiekkjegckaaGreat
open Go Go.Aw Go.Pl
section
variable {H : Type} {enc : TypeId × Value → H} {W : World} {base : Nat} {v : Value} {d : DataW H} {p : List MemPlace}
end
end Go.Proofs.YtjbdiekkjegckaaGreat
