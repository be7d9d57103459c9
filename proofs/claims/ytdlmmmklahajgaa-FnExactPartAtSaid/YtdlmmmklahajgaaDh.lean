import Derived.Test.YtdlmmmklahajgaaDg
import Derived.Test.YtdlmmmklahajgaaLib4
set_option linter.unusedSimpArgs false
set_option linter.unusedVariables false
namespace Go.Proofs.Ytdlmmmklahajgaa
open Go Go.Aw Go.Pl

end Go.Proofs.Ytdlmmmklahajgaa
