import Derived.Test.YtkkgmjclfclaoaaDi
set_option linter.unusedSimpArgs false
set_option linter.unusedVariables false
namespace Go.Proofs.Ytkkgmjclfclaoaa
open Go Go.Aw Go.Pl
end Go.Proofs.Ytkkgmjclfclaoaa
