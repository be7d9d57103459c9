import Derived.Test.YtaijdhkjemffhaaDg
import Derived.Test.YtaijdhkjemffhaaLib4
set_option linter.unusedSimpArgs false
set_option linter.unusedVariables false
namespace Go.Proofs.Ytaijdhkjemffhaa
open Go Go.Aw Go.Pl
end Go.Proofs.Ytaijdhkjemffhaa
