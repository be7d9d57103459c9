import Derived.Test.YtppoaacplncppaaWx4
import Derived.Test.YtppoaacplncppaaPl2
set_option linter.unusedSimpArgs false
set_option linter.unusedVariables false
namespace Go.Proofs.Ytppoaacplncppaa
open Go Go.Aw Go.Pl
end Go.Proofs.Ytppoaacplncppaa
namespace Go.Proofs.Ytppoaacplncppaa
open Go Go.Aw Go.Pl
end Go.Proofs.Ytppoaacplncppaa
namespace Go.Proofs.Ytppoaacplncppaa
open Go Go.Aw Go.Pl
end Go.Proofs.Ytppoaacplncppaa
