import Derived.Test.YtjpdkdepbkmebaaGreatPl2
set_option linter.unusedSimpArgs false
set_option linter.unusedVariables false
namespace Go.Pl
open Go.Aw
def frP (o : List Int) : Nat → Int
 | 0 => 1
 | k + 1 => frP o k * o.getD k 0
def RowB (n : Nat) (m : Int) (r : List Int) : Prop := r.length = n ∧ ∀ k, k < n → 0 ≤ r.getD k 0 ∧ r.getD k 0 ≤ m - 1
def GridB (n : Nat) (m : Int) (g : List (List Int)) : Prop := g.length = n ∧ ∀ j, j < n → RowB n m (g.getD j [])
def CubB (n : Nat) (m : Int) (w : List (List (List Int))) : Prop := w.length = n ∧ ∀ i, i < n → GridB n m (w.getD i [])
theorem GridB.row {n : Nat} {m : Int} {g : List (List Int)} (h : GridB n m g) {j : Nat} (hj : j < n) : (g.getD j []).length = n := (h.2 j hj).1
theorem GridB.bd {n : Nat} {m : Int} {g : List (List Int)} (h : GridB n m g) {j k : Nat} (hj : j < n) (hk : k < n) : 0 ≤ e2 g j k ∧ e2 g j k ≤ m - 1 := (h.2 j hj).2 k hk
theorem CubB.mat {n : Nat} {m : Int} {w : List (List (List Int))} (h : CubB n m w) {i : Nat} (hi : i < n) : (w.getD i []).length = n := (h.2 i hi).1
theorem CubB.row {n : Nat} {m : Int} {w : List (List (List Int))} (h : CubB n m w) {i j : Nat} (hi : i < n) (hj : j < n) : ((w.getD i []).getD j []).length = n := (h.2 i hi).row hj
theorem CubB.bd {n : Nat} {m : Int} {w : List (List (List Int))} (h : CubB n m w) {i j k : Nat} (hi : i < n) (hj : j < n) (hk : k < n) : 0 ≤ e3 w i j k ∧ e3 w i j k ≤ m - 1 := (h.2 i hi).bd hj hk
theorem sub_zero {a b m : Int} : (a - b) % m = 0 ↔ a % m = b % m := by
 rw [Int.emod_eq_emod_iff_emod_sub_eq_zero]
end Go.Pl
namespace Go.Pl
open Go.Aw
end Go.Pl
