import Derived.Test.YtaijdhkjemffhaaWx2
import Derived.Test.YtaijdhkjemffhaaWx4
import Derived.Test.YtaijdhkjemffhaaPl2
set_option linter.unusedSimpArgs false
set_option linter.unusedVariables false
namespace Go.Proofs.Ytaijdhkjemffhaa
open Go Go.Aw Go.Pl
end Go.Proofs.Ytaijdhkjemffhaa
