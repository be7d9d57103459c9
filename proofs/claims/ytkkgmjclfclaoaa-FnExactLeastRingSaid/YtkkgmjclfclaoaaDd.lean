import Derived.Test.YtkkgmjclfclaoaaDc
import Derived.Test.YtkkgmjclfclaoaaLib4
set_option linter.unusedSimpArgs false
set_option linter.unusedVariables false
namespace Go.Proofs.Ytkkgmjclfclaoaa
open Go Go.Aw Go.Pl
end Go.Proofs.Ytkkgmjclfclaoaa
