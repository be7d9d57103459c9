import Derived.Test.YtkdadpdmnmjikaaKp2
import Derived.Test.YtkdadpdmnmjikaaWx2
import Derived.Test.YtkdadpdmnmjikaaWx3
import Derived.Test.YtkdadpdmnmjikaaEx1
import Derived.Test.YtkdadpdmnmjikaaWz1
import Derived.Test.YtkdadpdmnmjikaaFz1
import Derived.Test.YtkdadpdmnmjikaaHd
set_option linter.unusedSimpArgs false
set_option linter.unusedVariables false
namespace Go.Proofs.Ytkdadpdmnmjikaa
open Go Go.Aw Go.Pl
end Go.Proofs.Ytkdadpdmnmjikaa
namespace Go.Proofs.Ytkdadpdmnmjikaa
open Go Go.Aw Go.Pl
end Go.Proofs.Ytkdadpdmnmjikaa
namespace Go.Proofs.Ytkdadpdmnmjikaa
open Go Go.Aw Go.Pl
end Go.Proofs.Ytkdadpdmnmjikaa
