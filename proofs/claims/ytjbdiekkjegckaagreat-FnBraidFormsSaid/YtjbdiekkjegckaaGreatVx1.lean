import Derived.Test.YtjbdiekkjegckaaGreatKp1
set_option linter.unusedSimpArgs false
set_option linter.unusedVariables false
namespace Go.Pl
open Go
def Sol (p : Int) (m n : Nat) (G : Nat → Nat → Int) (x : Nat → Int) : Prop := ∀ i, i < m → sumTo (fun k => G i k * x k) n % p = 0
end Go.Pl
namespace Go.Pl
open Go
structure GjP (m n k : Nat) (G0 G : Nat → Nat → Int) (d : Nat) (pv : Nat → Nat) : Prop where
 dm : d ≤ m
 ent : ∀ i, i < m → ∀ c, c < n → InP (G i c)
 pk : ∀ j, j < d → pv j < k
 one : ∀ i, i < m → ∀ j, j < d → G i (pv j) = if i = j then 1 else 0
 low : ∀ i, d ≤ i → i < m → ∀ c, c < k → G i c = 0
 lead : ∀ i, i < d → ∀ c, c < pv i → G i c = 0
 sol : ∀ x, Sol 55441 m n G x ↔ Sol 55441 m n G0 x
theorem GjP.inj {m n k d : Nat} {G0 G : Nat → Nat → Int} {pv : Nat → Nat} (h : GjP m n k G0 G d pv) {i j : Nat} (hi : i < d) (hj : j < d) (e : pv i = pv j) : i = j := by
 have hdm := h.dm
 have h1 := h.one i (by omega) j hj
 rw [← e, h.one i (by omega) i hi, if_pos rfl] at h1
 by_cases c : i = j
 ·exact c
 ·rw [if_neg c] at h1; omega
end Go.Pl
namespace Go.Pl
open Go
end Go.Pl
namespace Go.Pl
open Go
end Go.Pl
