import Derived.Test.YtjcfefgbieeheaaMz2
import Derived.Test.YtjcfefgbieeheaaQd2
import Derived.Test.YtjcfefgbieeheaaWx4
import Derived.Test.YtjcfefgbieeheaaWz1
import Derived.Test.YtjcfefgbieeheaaJz4
import Derived.Test.YtjcfefgbieeheaaDz1
import Derived.Test.YtjcfefgbieeheaaHd
import Derived.Test.YtjcfefgbieeheaaWx1
set_option linter.unusedSimpArgs false
set_option linter.unusedVariables false
namespace Go.Proofs.Ytjcfefgbieeheaa
open Go Go.Aw Go.Pl
end Go.Proofs.Ytjcfefgbieeheaa
namespace Go.Proofs.Ytjcfefgbieeheaa
open Go Go.Aw Go.Pl
end Go.Proofs.Ytjcfefgbieeheaa
namespace Go.Proofs.Ytjcfefgbieeheaa
open Go Go.Aw Go.Pl
end Go.Proofs.Ytjcfefgbieeheaa
namespace Go.Proofs.Ytjcfefgbieeheaa
open Go Go.Aw Go.Pl
end Go.Proofs.Ytjcfefgbieeheaa
