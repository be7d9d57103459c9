import Derived.Test.YtjcfefgbieeheaaDoorKp2
import Derived.Test.YtjcfefgbieeheaaDoorWx2
import Derived.Test.YtjcfefgbieeheaaDoorWx3
import Derived.Test.YtjcfefgbieeheaaDoorEx1
import Derived.Test.YtjcfefgbieeheaaDoorWz1
import Derived.Test.YtjcfefgbieeheaaDoorFz1
import Derived.Test.YtjcfefgbieeheaaDoorHd
set_option linter.unusedSimpArgs false
set_option linter.unusedVariables false
namespace Go.Proofs.YtjcfefgbieeheaaDoor
open Go Go.Aw Go.Pl
end Go.Proofs.YtjcfefgbieeheaaDoor
namespace Go.Proofs.YtjcfefgbieeheaaDoor
open Go Go.Aw Go.Pl
end Go.Proofs.YtjcfefgbieeheaaDoor
namespace Go.Proofs.YtjcfefgbieeheaaDoor
open Go Go.Aw Go.Pl
end Go.Proofs.YtjcfefgbieeheaaDoor
