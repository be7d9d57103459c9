import Derived.Test.YtmjcbgpbhlheoaaMz1
import Derived.Test.YtmjcbgpbhlheoaaLib7
import Derived.Test.YtmjcbgpbhlheoaaWx1
import Derived.Test.YtmjcbgpbhlheoaaHd
import Derived.Test.YtmjcbgpbhlheoaaQd2
import Derived.Test.YtmjcbgpbhlheoaaWx2
import Derived.Test.YtmjcbgpbhlheoaaWx4
set_option linter.unusedSimpArgs false
set_option linter.unusedVariables false
namespace Go.Proofs.Ytmjcbgpbhlheoaa
open Go Go.Aw Go.Pl
end Go.Proofs.Ytmjcbgpbhlheoaa
namespace Go.Proofs.Ytmjcbgpbhlheoaa
open Go Go.Aw Go.Pl
end Go.Proofs.Ytmjcbgpbhlheoaa
namespace Go.Proofs.Ytmjcbgpbhlheoaa
open Go Go.Aw Go.Pl
end Go.Proofs.Ytmjcbgpbhlheoaa
namespace Go.Proofs.Ytmjcbgpbhlheoaa
open Go Go.Aw Go.Pl
end Go.Proofs.Ytmjcbgpbhlheoaa
