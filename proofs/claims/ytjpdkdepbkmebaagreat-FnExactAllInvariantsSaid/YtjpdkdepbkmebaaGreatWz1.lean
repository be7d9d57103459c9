import Derived.Test.YtjpdkdepbkmebaaGreatWx4
import Derived.Test.YtjpdkdepbkmebaaGreatPl2
set_option linter.unusedSimpArgs false
set_option linter.unusedVariables false
namespace Go.Proofs.YtjpdkdepbkmebaaGreat
open Go Go.Aw Go.Pl
end Go.Proofs.YtjpdkdepbkmebaaGreat
namespace Go.Proofs.YtjpdkdepbkmebaaGreat
open Go Go.Aw Go.Pl
end Go.Proofs.YtjpdkdepbkmebaaGreat
namespace Go.Proofs.YtjpdkdepbkmebaaGreat
open Go Go.Aw Go.Pl
end Go.Proofs.YtjpdkdepbkmebaaGreat
