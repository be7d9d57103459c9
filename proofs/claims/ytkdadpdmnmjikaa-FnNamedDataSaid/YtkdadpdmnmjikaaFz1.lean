import Derived.Test.YtkdadpdmnmjikaaPl5
import Derived.Test.YtkdadpdmnmjikaaLib6
import Derived.Test.YtkdadpdmnmjikaaDz2
import Derived.Test.YtkdadpdmnmjikaaWz1
import Derived.Test.YtkdadpdmnmjikaaWx4
import Derived.Test.YtkdadpdmnmjikaaPl3
import Derived.Test.YtkdadpdmnmjikaaDz1
import Derived.Test.YtkdadpdmnmjikaaKp2
set_option linter.unusedSimpArgs false
set_option linter.unusedVariables false
namespace Go.Proofs.Ytkdadpdmnmjikaa
open Go Go.Aw Go.Pl
end Go.Proofs.Ytkdadpdmnmjikaa
namespace Go.Proofs.Ytkdadpdmnmjikaa
open Go Go.Aw Go.Pl
end Go.Proofs.Ytkdadpdmnmjikaa
namespace Go.Proofs.Ytkdadpdmnmjikaa
open Go Go.Aw Go.Pl
end Go.Proofs.Ytkdadpdmnmjikaa
namespace Go.Proofs.Ytkdadpdmnmjikaa
open Go Go.Aw Go.Pl
end Go.Proofs.Ytkdadpdmnmjikaa
