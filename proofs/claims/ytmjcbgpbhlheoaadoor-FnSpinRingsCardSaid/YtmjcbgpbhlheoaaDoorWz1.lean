import Derived.Test.YtmjcbgpbhlheoaaDoorWx4
import Derived.Test.YtmjcbgpbhlheoaaDoorPl2
set_option linter.unusedSimpArgs false
set_option linter.unusedVariables false
namespace Go.Proofs.YtmjcbgpbhlheoaaDoor
open Go Go.Aw Go.Pl
end Go.Proofs.YtmjcbgpbhlheoaaDoor
namespace Go.Proofs.YtmjcbgpbhlheoaaDoor
open Go Go.Aw Go.Pl
end Go.Proofs.YtmjcbgpbhlheoaaDoor
namespace Go.Proofs.YtmjcbgpbhlheoaaDoor
open Go Go.Aw Go.Pl
end Go.Proofs.YtmjcbgpbhlheoaaDoor
