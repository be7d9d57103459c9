import Derived.Test.YtbddekioaigbhaaDa
import Derived.Test.YtbddekioaigbhaaPl2
set_option linter.unusedSimpArgs false
set_option linter.unusedVariables false
namespace Go.Proofs.Ytbddekioaigbhaa
open Go Go.Aw Go.Pl

end Go.Proofs.Ytbddekioaigbhaa
