import Derived.Test.YtjcfefgbieeheaaDoorDz1
set_option linter.unusedSimpArgs false
set_option linter.unusedVariables false
namespace Go.Proofs.YtjcfefgbieeheaaDoor
open Go Go.Aw Go.Pl
end Go.Proofs.YtjcfefgbieeheaaDoor
namespace Go.Proofs.YtjcfefgbieeheaaDoor
open Go Go.Aw Go.Pl
end Go.Proofs.YtjcfefgbieeheaaDoor
namespace Go.Proofs.YtjcfefgbieeheaaDoor
open Go Go.Aw Go.Pl
end Go.Proofs.YtjcfefgbieeheaaDoor
namespace Go.Proofs.YtjcfefgbieeheaaDoor
open Go Go.Aw Go.Pl
end Go.Proofs.YtjcfefgbieeheaaDoor
