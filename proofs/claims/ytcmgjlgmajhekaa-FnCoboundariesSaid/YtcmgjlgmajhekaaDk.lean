import Derived.Test.YtcmgjlgmajhekaaWx1
import Derived.Test.YtcmgjlgmajhekaaBr
import Derived.Test.YtcmgjlgmajhekaaLib5
set_option linter.unusedSimpArgs false
set_option linter.unusedVariables false
namespace Go.Proofs.Ytcmgjlgmajhekaa
open Go Go.Aw Go.Pl
section
variable {H : Type} {enc : TypeId × Value → H} {W : World} {base : Nat} {v : Value} {d : DataW H} {p : List MemPlace}
end
end Go.Proofs.Ytcmgjlgmajhekaa
