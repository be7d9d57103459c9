import Derived.Test.YtmjcbgpbhlheoaaLib7
import Derived.Test.YtmjcbgpbhlheoaaTy
import Derived.Test.YtmjcbgpbhlheoaaRows
import Derived.Shelf.Spec.TrailingZeros
import Derived.Test.YtmjcbgpbhlheoaaQd1
import Derived.Test.YtmjcbgpbhlheoaaWx2
import Derived.Test.YtmjcbgpbhlheoaaWx3
import Derived.Test.YtmjcbgpbhlheoaaWz1
import Derived.Test.YtmjcbgpbhlheoaaQd2
set_option linter.unusedSimpArgs false
set_option linter.unusedVariables false
namespace Go.Proofs.Ytmjcbgpbhlheoaa
open Go Go.Aw Go.RowKit
end Go.Proofs.Ytmjcbgpbhlheoaa
namespace Go.Proofs.Ytmjcbgpbhlheoaa
open Go Go.Aw Go.Pl
end Go.Proofs.Ytmjcbgpbhlheoaa
namespace Go.Proofs.Ytmjcbgpbhlheoaa
open Go Go.Aw Go.Pl
end Go.Proofs.Ytmjcbgpbhlheoaa
namespace Go.Proofs.Ytmjcbgpbhlheoaa
open Go Go.Aw Go.Pl
end Go.Proofs.Ytmjcbgpbhlheoaa
