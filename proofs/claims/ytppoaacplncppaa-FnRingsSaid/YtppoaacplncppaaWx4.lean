import Derived.Test.YtppoaacplncppaaWx2
import Derived.Test.YtppoaacplncppaaPl1
import Derived.Test.YtppoaacplncppaaWx3
set_option linter.unusedSimpArgs false
set_option linter.unusedVariables false
namespace Go.Proofs.Ytppoaacplncppaa
open Go Go.Aw Go.Pl
end Go.Proofs.Ytppoaacplncppaa
namespace Go.Proofs.Ytppoaacplncppaa
open Go Go.Aw Go.Pl
def trF (a : List (List Int)) (i k : Nat) (p q : Nat) : Int := if q < i ∨ (q = i ∧ p < k) then e2 a q p else 0
end Go.Proofs.Ytppoaacplncppaa
namespace Go.Proofs.Ytppoaacplncppaa
open Go Go.Aw Go.Pl
end Go.Proofs.Ytppoaacplncppaa
namespace Go.Proofs.Ytppoaacplncppaa
open Go Go.Aw Go.Pl
end Go.Proofs.Ytppoaacplncppaa
namespace Go.Proofs.Ytppoaacplncppaa
open Go Go.Aw Go.Pl
end Go.Proofs.Ytppoaacplncppaa
