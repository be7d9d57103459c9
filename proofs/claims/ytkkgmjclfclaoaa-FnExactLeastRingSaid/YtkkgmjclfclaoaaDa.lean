import Derived.Test.YtkkgmjclfclaoaaWx2
import Derived.Test.YtkkgmjclfclaoaaWx4
import Derived.Test.YtkkgmjclfclaoaaPlG
set_option linter.unusedSimpArgs false
set_option linter.unusedVariables false
namespace Go.Proofs.Ytkkgmjclfclaoaa
open Go Go.Aw Go.Pl
end Go.Proofs.Ytkkgmjclfclaoaa
