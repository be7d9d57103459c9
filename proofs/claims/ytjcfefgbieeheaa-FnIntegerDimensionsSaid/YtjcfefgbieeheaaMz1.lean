import Derived.Test.YtjcfefgbieeheaaLib7
import Derived.Test.YtjcfefgbieeheaaTy
import Derived.Test.YtjcfefgbieeheaaRows
import Derived.Shelf.Spec.TrailingZeros
import Derived.Test.YtjcfefgbieeheaaQd1
import Derived.Test.YtjcfefgbieeheaaWx2
import Derived.Test.YtjcfefgbieeheaaWx3
import Derived.Test.YtjcfefgbieeheaaWz1
import Derived.Test.YtjcfefgbieeheaaQd2
set_option linter.unusedSimpArgs false
set_option linter.unusedVariables false
namespace Go.Proofs.Ytjcfefgbieeheaa
open Go Go.Aw Go.RowKit
end Go.Proofs.Ytjcfefgbieeheaa
namespace Go.Proofs.Ytjcfefgbieeheaa
open Go Go.Aw Go.Pl
end Go.Proofs.Ytjcfefgbieeheaa
namespace Go.Proofs.Ytjcfefgbieeheaa
open Go Go.Aw Go.Pl
end Go.Proofs.Ytjcfefgbieeheaa
namespace Go.Proofs.Ytjcfefgbieeheaa
open Go Go.Aw Go.Pl
end Go.Proofs.Ytjcfefgbieeheaa
