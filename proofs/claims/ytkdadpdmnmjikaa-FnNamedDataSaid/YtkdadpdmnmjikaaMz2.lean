import Derived.Test.YtkdadpdmnmjikaaMz1
import Derived.Test.YtkdadpdmnmjikaaLib7
import Derived.Test.YtkdadpdmnmjikaaWx1
import Derived.Test.YtkdadpdmnmjikaaHd
import Derived.Test.YtkdadpdmnmjikaaQd2
import Derived.Test.YtkdadpdmnmjikaaWx2
import Derived.Test.YtkdadpdmnmjikaaWx4
set_option linter.unusedSimpArgs false
set_option linter.unusedVariables false
namespace Go.Proofs.Ytkdadpdmnmjikaa
open Go Go.Aw Go.Pl
end Go.Proofs.Ytkdadpdmnmjikaa
namespace Go.Proofs.Ytkdadpdmnmjikaa
open Go Go.Aw Go.Pl
end Go.Proofs.Ytkdadpdmnmjikaa
namespace Go.Proofs.Ytkdadpdmnmjikaa
open Go Go.Aw Go.Pl
end Go.Proofs.Ytkdadpdmnmjikaa
namespace Go.Proofs.Ytkdadpdmnmjikaa
open Go Go.Aw Go.Pl
end Go.Proofs.Ytkdadpdmnmjikaa
