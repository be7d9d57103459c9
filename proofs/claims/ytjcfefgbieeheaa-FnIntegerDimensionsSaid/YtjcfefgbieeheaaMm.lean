import Derived.Test.YtjcfefgbieeheaaMz3
set_option linter.unusedSimpArgs false
set_option linter.unusedVariables false
namespace Go.Proofs.Ytjcfefgbieeheaa
open Go Go.Aw Go.Pl
end Go.Proofs.Ytjcfefgbieeheaa
