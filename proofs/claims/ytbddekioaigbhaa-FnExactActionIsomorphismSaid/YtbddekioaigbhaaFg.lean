/-
  Renumbered points, the visitor of LeastAction.
-/
import Derived.Test.YtbddekioaigbhaaFe
import Derived.Test.YtbddekioaigbhaaFf
import Derived.Test.YtbddekioaigbhaaWo
set_option linter.unusedSimpArgs false
set_option linter.unusedVariables false
namespace Go.Proofs.Ytbddekioaigbhaa
open Go Go.Aw Go.Pl

/-- The best action so far has the shape of all. -/
def GoodB (k n : Nat) (s : Option (List (List (List Int)))) : Prop := ∀ M, s = some M → Sh k n M
end Go.Proofs.Ytbddekioaigbhaa
