import Derived.Test.YthhjcdnfflcikaaGreatLib3
import Derived.Test.YthhjcdnfflcikaaGreatTy
import Derived.KernelRfl
set_option linter.unusedSimpArgs false
set_option linter.unusedVariables false
namespace Go.Proofs.YthhjcdnfflcikaaGreat
open Go Go.Aw
section
variable {H : Type} {enc : TypeId × Value → H} {W : World} {base : Nat} {v : Value} {d : DataW H} {p : List MemPlace}
end
end Go.Proofs.YthhjcdnfflcikaaGreat
