import Derived.Test.YtjcfefgbieeheaaDoorWx4
import Derived.Test.YtjcfefgbieeheaaDoorPl2
set_option linter.unusedSimpArgs false
set_option linter.unusedVariables false
namespace Go.Proofs.YtjcfefgbieeheaaDoor
open Go Go.Aw Go.Pl
end Go.Proofs.YtjcfefgbieeheaaDoor
namespace Go.Proofs.YtjcfefgbieeheaaDoor
open Go Go.Aw Go.Pl
end Go.Proofs.YtjcfefgbieeheaaDoor
namespace Go.Proofs.YtjcfefgbieeheaaDoor
open Go Go.Aw Go.Pl
end Go.Proofs.YtjcfefgbieeheaaDoor
