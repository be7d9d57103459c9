import Derived.Test.YtbddekioaigbhaaDc
import Derived.Test.YtbddekioaigbhaaLib4
set_option linter.unusedSimpArgs false
set_option linter.unusedVariables false
namespace Go.Proofs.Ytbddekioaigbhaa
open Go Go.Aw Go.Pl

end Go.Proofs.Ytbddekioaigbhaa
