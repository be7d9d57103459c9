import Derived.Test.YtkdadpdmnmjikaaLib7
import Derived.Test.YtkdadpdmnmjikaaTy
import Derived.Test.YtkdadpdmnmjikaaRows
import Derived.Shelf.Spec.TrailingZeros
import Derived.Test.YtkdadpdmnmjikaaQd1
import Derived.Test.YtkdadpdmnmjikaaWx2
import Derived.Test.YtkdadpdmnmjikaaWx3
import Derived.Test.YtkdadpdmnmjikaaWz1
import Derived.Test.YtkdadpdmnmjikaaQd2
set_option linter.unusedSimpArgs false
set_option linter.unusedVariables false
namespace Go.Proofs.Ytkdadpdmnmjikaa
open Go Go.Aw Go.RowKit
end Go.Proofs.Ytkdadpdmnmjikaa
namespace Go.Proofs.Ytkdadpdmnmjikaa
open Go Go.Aw Go.Pl
end Go.Proofs.Ytkdadpdmnmjikaa
namespace Go.Proofs.Ytkdadpdmnmjikaa
open Go Go.Aw Go.Pl
end Go.Proofs.Ytkdadpdmnmjikaa
namespace Go.Proofs.Ytkdadpdmnmjikaa
open Go Go.Aw Go.Pl
end Go.Proofs.Ytkdadpdmnmjikaa
