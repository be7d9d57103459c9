import Derived.Test.YtlngnhbochmcoaaWx1
import Derived.Test.YtlngnhbochmcoaaBr
import Derived.Test.YtlngnhbochmcoaaLib5
set_option linter.unusedSimpArgs false
set_option linter.unusedVariables false
namespace Go.Proofs.Ytlngnhbochmcoaa
open Go Go.Aw Go.Pl
section
variable {H : Type} {enc : TypeId × Value → H} {W : World} {base : Nat} {v : Value} {d : DataW H} {p : List MemPlace}
end
end Go.Proofs.Ytlngnhbochmcoaa
