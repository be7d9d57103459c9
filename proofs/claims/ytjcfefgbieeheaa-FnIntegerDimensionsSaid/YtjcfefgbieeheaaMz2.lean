import Derived.Test.YtjcfefgbieeheaaMz1
import Derived.Test.YtjcfefgbieeheaaLib7
import Derived.Test.YtjcfefgbieeheaaWx1
import Derived.Test.YtjcfefgbieeheaaHd
import Derived.Test.YtjcfefgbieeheaaQd2
import Derived.Test.YtjcfefgbieeheaaWx2
import Derived.Test.YtjcfefgbieeheaaWx4
set_option linter.unusedSimpArgs false
set_option linter.unusedVariables false
namespace Go.Proofs.Ytjcfefgbieeheaa
open Go Go.Aw Go.Pl
end Go.Proofs.Ytjcfefgbieeheaa
namespace Go.Proofs.Ytjcfefgbieeheaa
open Go Go.Aw Go.Pl
end Go.Proofs.Ytjcfefgbieeheaa
namespace Go.Proofs.Ytjcfefgbieeheaa
open Go Go.Aw Go.Pl
end Go.Proofs.Ytjcfefgbieeheaa
namespace Go.Proofs.Ytjcfefgbieeheaa
open Go Go.Aw Go.Pl
end Go.Proofs.Ytjcfefgbieeheaa
