import Derived.Test.YtkdadpdmnmjikaaPl3
import Derived.Test.YtkdadpdmnmjikaaLib6
import Derived.Test.YtkdadpdmnmjikaaWz1
import Derived.Test.YtkdadpdmnmjikaaDz2
set_option linter.unusedSimpArgs false
set_option linter.unusedVariables false
namespace Go.Proofs.Ytkdadpdmnmjikaa
open Go Go.Aw Go.Pl
def mx (xs : List Int) : Nat → Int
 | 0 => xs.getD 0 0
 | k + 1 => max (mx xs k) (xs.getD (k + 1) 0)
end Go.Proofs.Ytkdadpdmnmjikaa
namespace Go.Proofs.Ytkdadpdmnmjikaa
open Go Go.Aw Go.Pl
end Go.Proofs.Ytkdadpdmnmjikaa
namespace Go.Proofs.Ytkdadpdmnmjikaa
open Go Go.Aw Go.Pl
end Go.Proofs.Ytkdadpdmnmjikaa
namespace Go.Proofs.Ytkdadpdmnmjikaa
open Go Go.Aw Go.Pl
end Go.Proofs.Ytkdadpdmnmjikaa
