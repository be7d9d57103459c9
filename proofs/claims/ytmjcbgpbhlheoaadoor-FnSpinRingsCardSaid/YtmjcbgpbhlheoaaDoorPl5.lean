import Derived.Test.YtmjcbgpbhlheoaaDoorPl2
set_option linter.unusedSimpArgs false
set_option linter.unusedVariables false
namespace Go.Pl
open Go.Aw
def pr (s : List (List Int)) (cs : List Int) (x : Int) (l : Nat) : Nat → Int
 | 0 => x
 | i + 1 => pr s cs x l i * e2 s (cs.getD i 0).toNat l % 55441
def LagP (s : List (List Int)) (t v : List Int) : Prop := v.length = t.length ∧ v.getD 0 0 = 1 ∧ (∀ i, i < t.length → (0 ≤ v.getD i 0 ∧ v.getD i 0 ≤ 1000) ∧ (v.getD i 0 ≠ 0 → t.getD i 0 = 1)) ∧ (∀ i, i < t.length → dotP (s.getD i []) v t.length = dotP (s.getD 0 []) v t.length * v.getD i 0 % 55441) ∧ dotP (s.getD 0 []) v t.length * dotP (s.getD 0 []) v t.length % 55441 = wholeD s t.length
def hI (s : List (List Int)) (t c : List Int) (a : Nat) (k : Int) (j l : Nat) : Int := numV s t.length c j l a * (e2 s 0 j * e2 s 0 l % 55441 * rs (t.getD j 0 * inv (t.getD l 0) % 55441) k % 55441) % 55441
theorem LagP.le {s : List (List Int)} {t v : List Int} (h : LagP s t v) : ∀ i, i < t.length → 0 ≤ v.getD i 0 ∧ v.getD i 0 ≤ 1000 := fun i hi => (h.2.2.1 i hi).1
theorem mul_le6 {a b : Int} (h1 : 0 ≤ a ∧ a ≤ 1000) (h2 : 0 ≤ b ∧ b ≤ 1000) : 0 ≤ a * b ∧ a * b ≤ 1000000 := by
 refine ⟨Int.mul_nonneg h1.1 h2.1, ?_⟩
 have : a * b ≤ 1000 * b := Int.mul_le_mul_of_nonneg_right h1.2 h2.1
 omega
end Go.Pl
namespace Go.Pl
open Go.Aw
end Go.Pl
