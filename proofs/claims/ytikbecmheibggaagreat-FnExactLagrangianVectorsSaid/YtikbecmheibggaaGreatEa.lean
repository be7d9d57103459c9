import Derived.Test.YtikbecmheibggaaGreatDx1
import Derived.Test.YtikbecmheibggaaGreatPlL
set_option linter.unusedSimpArgs false
set_option linter.unusedVariables false
namespace Go.Proofs.YtikbecmheibggaaGreat
open Go Go.Aw Go.Pl
end Go.Proofs.YtikbecmheibggaaGreat
