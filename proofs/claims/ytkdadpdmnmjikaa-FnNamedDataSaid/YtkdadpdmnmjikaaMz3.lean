import Derived.Test.YtkdadpdmnmjikaaMz2
import Derived.Test.YtkdadpdmnmjikaaQd2
import Derived.Test.YtkdadpdmnmjikaaWx4
import Derived.Test.YtkdadpdmnmjikaaWz1
import Derived.Test.YtkdadpdmnmjikaaJz4
import Derived.Test.YtkdadpdmnmjikaaDz1
import Derived.Test.YtkdadpdmnmjikaaHd
import Derived.Test.YtkdadpdmnmjikaaWx1
set_option linter.unusedSimpArgs false
set_option linter.unusedVariables false
namespace Go.Proofs.Ytkdadpdmnmjikaa
open Go Go.Aw Go.Pl
end Go.Proofs.Ytkdadpdmnmjikaa
namespace Go.Proofs.Ytkdadpdmnmjikaa
open Go Go.Aw Go.Pl
end Go.Proofs.Ytkdadpdmnmjikaa
namespace Go.Proofs.Ytkdadpdmnmjikaa
open Go Go.Aw Go.Pl
end Go.Proofs.Ytkdadpdmnmjikaa
namespace Go.Proofs.Ytkdadpdmnmjikaa
open Go Go.Aw Go.Pl
end Go.Proofs.Ytkdadpdmnmjikaa
