import Derived.Test.YthhjcdnfflcikaaGreatWx1
set_option linter.unusedSimpArgs false
set_option linter.unusedVariables false
namespace Go.Proofs.YthhjcdnfflcikaaGreat
open Go Go.Aw Go.Pl
end Go.Proofs.YthhjcdnfflcikaaGreat
