import Derived.Test.YtbddekioaigbhaaDh
import Derived.Test.YtbddekioaigbhaaLib5
import Derived.Test.YtbddekioaigbhaaLib4
import Derived.Test.YtbddekioaigbhaaWx2
set_option linter.unusedSimpArgs false
set_option linter.unusedVariables false
namespace Go.Proofs.Ytbddekioaigbhaa
open Go Go.Aw Go.Pl

end Go.Proofs.Ytbddekioaigbhaa
