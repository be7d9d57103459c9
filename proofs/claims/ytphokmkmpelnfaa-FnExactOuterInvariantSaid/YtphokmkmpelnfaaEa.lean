import Derived.Test.YtphokmkmpelnfaaDo
import Derived.Test.YtphokmkmpelnfaaPlL
set_option linter.unusedSimpArgs false
set_option linter.unusedVariables false
namespace Go.Proofs.Ytphokmkmpelnfaa
open Go Go.Aw Go.Pl

end Go.Proofs.Ytphokmkmpelnfaa
