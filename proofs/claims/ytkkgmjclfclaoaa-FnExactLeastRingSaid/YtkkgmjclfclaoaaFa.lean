import Derived.Test.YtkkgmjclfclaoaaPlT
import Derived.Test.YtkkgmjclfclaoaaLib6
import Derived.Test.YtkkgmjclfclaoaaDr
import Derived.Test.YtkkgmjclfclaoaaWn
set_option linter.unusedSimpArgs false
set_option linter.unusedVariables false
namespace Go.Proofs.Ytkkgmjclfclaoaa
open Go Go.Aw Go.Pl
end Go.Proofs.Ytkkgmjclfclaoaa
