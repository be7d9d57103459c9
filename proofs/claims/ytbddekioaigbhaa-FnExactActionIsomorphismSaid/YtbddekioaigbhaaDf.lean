import Derived.Test.YtbddekioaigbhaaDe
import Derived.Test.YtbddekioaigbhaaWx3
set_option linter.unusedSimpArgs false
set_option linter.unusedVariables false
namespace Go.Proofs.Ytbddekioaigbhaa
open Go Go.Aw Go.Pl

end Go.Proofs.Ytbddekioaigbhaa
