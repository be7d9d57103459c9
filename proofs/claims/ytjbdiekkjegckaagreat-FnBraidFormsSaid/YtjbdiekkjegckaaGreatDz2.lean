import Derived.Test.YtjbdiekkjegckaaGreatDx1
import Derived.Test.YtjbdiekkjegckaaGreatDk
import Derived.Test.YtjbdiekkjegckaaGreatHy1
set_option linter.unusedSimpArgs false
set_option linter.unusedVariables false
namespace Go.Proofs.YtjbdiekkjegckaaGreat
open Go Go.Aw Go.Pl
open Go.Pl
end Go.Proofs.YtjbdiekkjegckaaGreat
