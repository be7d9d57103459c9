import Derived.Test.YtmjcbgpbhlheoaaDoorMm
import Derived.Test.YtmjcbgpbhlheoaaDoorQd2
set_option linter.unusedSimpArgs false
set_option linter.unusedVariables false
namespace Go.Proofs.YtmjcbgpbhlheoaaDoor
open Go Go.Aw Go.Pl
end Go.Proofs.YtmjcbgpbhlheoaaDoor
