/-
  The program's LeastAction.
-/
import Derived.Test.YtbddekioaigbhaaFg
set_option linter.unusedSimpArgs false
set_option linter.unusedVariables false
namespace Go.Proofs.Ytbddekioaigbhaa
open Go Go.Aw Go.Pl

theorem act_mats {t a : List (List (List Int))} (h : isAct t a = true) : (∀ i, i < a.length → MatOk (a.getD 0 []).length (a.getD i [])) ∧ 1 ≤ (a.getD 0 []).length ∧ (a.getD 0 []).length ≤ 16 ∧ 0 < a.length ∧ a.length ≤ 16 := by
  have fa := isAct_fam h
  have h16 := (isAct_ring h).1.2.1
  have h1 := (isAct_ring h).1.1
  have la := fa.1
  exact ⟨fa.2.2.2.2, fa.2.2.1, fa.2.2.2.1, by omega, by omega⟩

end Go.Proofs.Ytbddekioaigbhaa
