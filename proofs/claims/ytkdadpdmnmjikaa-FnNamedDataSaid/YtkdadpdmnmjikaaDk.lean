import Derived.Test.YtkdadpdmnmjikaaWx1
import Derived.Test.YtkdadpdmnmjikaaBr
import Derived.Test.YtkdadpdmnmjikaaLib5
set_option linter.unusedSimpArgs false
set_option linter.unusedVariables false
namespace Go.Proofs.Ytkdadpdmnmjikaa
open Go Go.Aw Go.Pl
section
variable {H : Type} {enc : TypeId × Value → H} {W : World} {base : Nat} {v : Value} {d : DataW H} {p : List MemPlace}
end
end Go.Proofs.Ytkdadpdmnmjikaa
