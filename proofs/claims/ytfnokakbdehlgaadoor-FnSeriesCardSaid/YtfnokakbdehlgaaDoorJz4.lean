import Derived.Test.YtfnokakbdehlgaaDoorKp2
import Derived.Test.YtfnokakbdehlgaaDoorWx2
import Derived.Test.YtfnokakbdehlgaaDoorWx3
import Derived.Test.YtfnokakbdehlgaaDoorEx1
import Derived.Test.YtfnokakbdehlgaaDoorWz1
import Derived.Test.YtfnokakbdehlgaaDoorFz1
import Derived.Test.YtfnokakbdehlgaaDoorHd
set_option linter.unusedSimpArgs false
set_option linter.unusedVariables false
namespace Go.Proofs.YtfnokakbdehlgaaDoor
open Go Go.Aw Go.Pl
end Go.Proofs.YtfnokakbdehlgaaDoor
namespace Go.Proofs.YtfnokakbdehlgaaDoor
open Go Go.Aw Go.Pl
end Go.Proofs.YtfnokakbdehlgaaDoor
namespace Go.Proofs.YtfnokakbdehlgaaDoor
open Go Go.Aw Go.Pl
end Go.Proofs.YtfnokakbdehlgaaDoor
