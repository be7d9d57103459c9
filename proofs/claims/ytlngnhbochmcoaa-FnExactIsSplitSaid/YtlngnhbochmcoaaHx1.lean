import Derived.Test.YtlngnhbochmcoaaPl6
import Derived.Test.YtlngnhbochmcoaaWx1
import Derived.Test.YtlngnhbochmcoaaGa
set_option linter.unusedSimpArgs false
set_option linter.unusedVariables false
namespace Go.Proofs.Ytlngnhbochmcoaa
open Go Go.Aw Go.Pl
open Go.Pl
end Go.Proofs.Ytlngnhbochmcoaa
