import Derived.Test.YtjbdiekkjegckaaGreatVx1
import Derived.Test.YtjbdiekkjegckaaGreatDz2
import Derived.Test.YtjbdiekkjegckaaGreatLib7
set_option linter.unusedSimpArgs false
set_option linter.unusedVariables false
namespace Go.Proofs.YtjbdiekkjegckaaGreat
open Go Go.Aw Go.Pl
open Go.Pl
end Go.Proofs.YtjbdiekkjegckaaGreat
