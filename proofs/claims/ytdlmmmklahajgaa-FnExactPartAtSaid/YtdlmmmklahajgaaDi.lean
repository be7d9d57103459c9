import Derived.Test.YtdlmmmklahajgaaDh
import Derived.Test.YtdlmmmklahajgaaLib5
import Derived.Test.YtdlmmmklahajgaaLib4
import Derived.Test.YtdlmmmklahajgaaWx2
set_option linter.unusedSimpArgs false
set_option linter.unusedVariables false
namespace Go.Proofs.Ytdlmmmklahajgaa
open Go Go.Aw Go.Pl

end Go.Proofs.Ytdlmmmklahajgaa
