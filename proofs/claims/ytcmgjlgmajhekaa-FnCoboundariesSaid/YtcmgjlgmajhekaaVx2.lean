import Derived.Test.YtcmgjlgmajhekaaVx1
import Derived.Test.YtcmgjlgmajhekaaDz2
import Derived.Test.YtcmgjlgmajhekaaLib7
import Derived.Test.YtcmgjlgmajhekaaDz1
set_option linter.unusedSimpArgs false
set_option linter.unusedVariables false
namespace Go.Proofs.Ytcmgjlgmajhekaa
open Go Go.Aw Go.Pl
end Go.Proofs.Ytcmgjlgmajhekaa
namespace Go.Proofs.Ytcmgjlgmajhekaa
open Go Go.Aw Go.Pl
end Go.Proofs.Ytcmgjlgmajhekaa
namespace Go.Proofs.Ytcmgjlgmajhekaa
open Go Go.Aw Go.Pl
end Go.Proofs.Ytcmgjlgmajhekaa
namespace Go.Proofs.Ytcmgjlgmajhekaa
open Go Go.Aw Go.Pl
end Go.Proofs.Ytcmgjlgmajhekaa
