import Derived.Test.YtfnokakbdehlgaaDoorWx4
import Derived.Test.YtfnokakbdehlgaaDoorPl2
set_option linter.unusedSimpArgs false
set_option linter.unusedVariables false
namespace Go.Proofs.YtfnokakbdehlgaaDoor
open Go Go.Aw Go.Pl
end Go.Proofs.YtfnokakbdehlgaaDoor
namespace Go.Proofs.YtfnokakbdehlgaaDoor
open Go Go.Aw Go.Pl
end Go.Proofs.YtfnokakbdehlgaaDoor
namespace Go.Proofs.YtfnokakbdehlgaaDoor
open Go Go.Aw Go.Pl
end Go.Proofs.YtfnokakbdehlgaaDoor
