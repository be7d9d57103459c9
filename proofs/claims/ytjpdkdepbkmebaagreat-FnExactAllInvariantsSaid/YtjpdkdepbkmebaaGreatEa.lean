import Derived.Test.YtjpdkdepbkmebaaGreatDx1
import Derived.Test.YtjpdkdepbkmebaaGreatPl5
set_option linter.unusedSimpArgs false
set_option linter.unusedVariables false
namespace Go.Proofs.YtjpdkdepbkmebaaGreat
open Go Go.Aw Go.Pl
end Go.Proofs.YtjpdkdepbkmebaaGreat
