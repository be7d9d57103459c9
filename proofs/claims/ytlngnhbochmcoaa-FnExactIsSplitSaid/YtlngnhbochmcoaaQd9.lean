import Derived.Test.YtlngnhbochmcoaaQd7
set_option linter.unusedSimpArgs false
set_option linter.unusedVariables false
namespace Go.Pl
open Go.Aw
def bj7 (l i j m : Nat) : Prop := cg4 i j ≤ m ∧ m ≤ i + j ∧ i + j + m ≤ 2 * l ∧ (i + j + m) % 2 = 0
instance (l i j m : Nat) : Decidable (bj7 l i j m) := by unfold bj7; infer_instance
end Go.Pl
namespace Go.Pl
open Go.Aw
end Go.Pl
