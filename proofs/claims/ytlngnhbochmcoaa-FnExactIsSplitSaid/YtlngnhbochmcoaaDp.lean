import Derived.Test.YtlngnhbochmcoaaDx1
set_option linter.unusedSimpArgs false
set_option linter.unusedVariables false
namespace Go.Proofs.Ytlngnhbochmcoaa
open Go Go.Aw Go.Pl
end Go.Proofs.Ytlngnhbochmcoaa
