import Derived.Test.YtmjcbgpbhlheoaaDoorKp2
import Derived.Test.YtmjcbgpbhlheoaaDoorWx2
import Derived.Test.YtmjcbgpbhlheoaaDoorWx3
import Derived.Test.YtmjcbgpbhlheoaaDoorEx1
import Derived.Test.YtmjcbgpbhlheoaaDoorWz1
import Derived.Test.YtmjcbgpbhlheoaaDoorFz1
import Derived.Test.YtmjcbgpbhlheoaaDoorHd
set_option linter.unusedSimpArgs false
set_option linter.unusedVariables false
namespace Go.Proofs.YtmjcbgpbhlheoaaDoor
open Go Go.Aw Go.Pl
end Go.Proofs.YtmjcbgpbhlheoaaDoor
namespace Go.Proofs.YtmjcbgpbhlheoaaDoor
open Go Go.Aw Go.Pl
end Go.Proofs.YtmjcbgpbhlheoaaDoor
namespace Go.Proofs.YtmjcbgpbhlheoaaDoor
open Go Go.Aw Go.Pl
end Go.Proofs.YtmjcbgpbhlheoaaDoor
