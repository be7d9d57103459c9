import Derived.Test.YtdlmmmklahajgaaDe
import Derived.Test.YtdlmmmklahajgaaWx3
set_option linter.unusedSimpArgs false
set_option linter.unusedVariables false
namespace Go.Proofs.Ytdlmmmklahajgaa
open Go Go.Aw Go.Pl

end Go.Proofs.Ytdlmmmklahajgaa
