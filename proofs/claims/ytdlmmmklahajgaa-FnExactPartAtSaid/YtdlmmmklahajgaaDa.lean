import Derived.Test.YtdlmmmklahajgaaWx2
import Derived.Test.YtdlmmmklahajgaaWx4
import Derived.Test.YtdlmmmklahajgaaPlG
set_option linter.unusedSimpArgs false
set_option linter.unusedVariables false
namespace Go.Proofs.Ytdlmmmklahajgaa
open Go Go.Aw Go.Pl

end Go.Proofs.Ytdlmmmklahajgaa
