import Derived.Test.YtkdadpdmnmjikaaDz2
import Derived.Test.YtkdadpdmnmjikaaLib6
import Derived.Test.YtkdadpdmnmjikaaKp1
set_option linter.unusedSimpArgs false
set_option linter.unusedVariables false
namespace Go.Proofs.Ytkdadpdmnmjikaa
open Go Go.Aw Go.Pl
attribute [go_sem] Try.underlying38
end Go.Proofs.Ytkdadpdmnmjikaa
