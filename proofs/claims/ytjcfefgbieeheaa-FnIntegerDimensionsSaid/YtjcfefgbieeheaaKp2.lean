import Derived.Test.YtjcfefgbieeheaaPl3
import Derived.Test.YtjcfefgbieeheaaPl5
import Derived.Test.YtjcfefgbieeheaaKp1
import Derived.Test.YtjcfefgbieeheaaPl2
set_option linter.unusedSimpArgs false
set_option linter.unusedVariables false
namespace Go.Pl
open Go.Aw
def befor (a b c i j k : Nat) : Prop := a < i ∨ (a = i ∧ (b < j ∨ (b = j ∧ c < k)))
instance (a b c i j k : Nat) : Decidable (befor a b c i j k) := by unfold befor; infer_instance
end Go.Pl
namespace Go.Pl
open Go.Aw
def VecX (n : Nat) (X : Int) (x : List Int) : Prop := x.length = n ∧ ∀ i, i < n → 0 ≤ x.getD i 0 ∧ x.getD i 0 ≤ X
section
variable {t : List (List (List Int))} {x y : List Int} {X Y : Int}
theorem xy_bd {n : Nat} (hx : VecX n X x) (hy : VecX n Y y) (hXY : X * Y ≤ 1000000000000) {i j : Nat} (hi : i < n) (hj : j < n) : 0 ≤ x.getD i 0 * y.getD j 0 ∧ x.getD i 0 * y.getD j 0 ≤ 1000000000000 := by
 have a := hx.2 i hi
 have b := hy.2 j hj
 have m1 : x.getD i 0 * y.getD j 0 ≤ X * Y := Int.mul_le_mul a.2 b.2 b.1 (by omega)
 exact ⟨Int.mul_nonneg a.1 b.1, by omega⟩
theorem pTm_bdX (hc : Cube t) (hx : VecX t.length X x) (hy : VecX t.length Y y) (hXY : X * Y ≤ 1000000000000) {i j k : Nat} (hi : i < t.length) (hj : j < t.length) (hk : k < t.length) : 0 ≤ pTm t x y k i j ∧ pTm t x y k i j ≤ 1000000000000000 := by
 have c : 0 ≤ e3 t i j k ∧ e3 t i j k ≤ 1000 := hc.inM hi hj hk
 have m := xy_bd hx hy hXY hi hj
 have m2 : x.getD i 0 * y.getD j 0 * e3 t i j k ≤ 1000000000000 * 1000 := Int.mul_le_mul m.2 c.2 c.1 (by omega)
 exact ⟨Int.mul_nonneg m.1 c.1, by unfold pTm; omega⟩
theorem pPart_bdX (hc : Cube t) (hx : VecX t.length X x) (hy : VecX t.length Y y) (hXY : X * Y ≤ 1000000000000) {i j k : Nat} (hi : i ≤ t.length) (hj : j ≤ t.length) (hij : i = t.length → j = 0) (hk : k < t.length) : 0 ≤ pPart t x y i j k ∧ pPart t x y i j k ≤ 512 * 1000000000000000 := by
 have h16 := hc.2.1
 have r : ∀ i, i < t.length → 0 ≤ sumTo (pTm t x y k i) t.length ∧ sumTo (pTm t x y k i) t.length ≤ 16 * 1000000000000000 := fun i hi => by
  have := sumTo_le (f := pTm t x y k i) (B := 1000000000000000) (n := t.length) (fun j hj => pTm_bdX hc hx hy hXY hi hj hk)
  omega
 have a := sumTo_le (f := fun i => sumTo (pTm t x y k i) t.length) (B := 16 * 1000000000000000) (n := i) (fun q hq => r q (by omega))
 unfold pPart
 by_cases e : i = t.length
 ·rw [hij e]
  simp only [sumTo]
  omega
 ·have b := sumTo_le (f := pTm t x y k i) (B := 1000000000000000) (n := j) (fun q hq => pTm_bdX hc hx hy hXY (by omega) (by omega) hk)
  omega
def prw (t : List (List (List Int))) (x y : List Int) (i j k : Nat) : List Int := rowF t.length (fun c => if c < k then pPart t x y i (j + 1) c else pPart t x y i j c)
theorem prw_len {i j k : Nat} : (prw t x y i j k).length = t.length := rowF_length ..
theorem prw_get {i j k : Nat} (hk : k < t.length) : (prw t x y i j k).getD k 0 = pPart t x y i j k := by
 unfold prw
 rw [rowF_get hk, if_neg (Nat.lt_irrefl k)]
theorem prw_set {i j k : Nat} : (prw t x y i j k).set k (pPart t x y i j k + pTm t x y k i j) = prw t x y i j (k + 1) := by
 unfold prw
 rw [rowF_set]
 refine rowF_congr fun c _ => ?_
 by_cases e : c = k
 ·subst e
  rw [if_pos rfl, if_pos (by omega), pPart_step]
 ·rw [if_neg e]
  by_cases h : c < k
  ·rw [if_pos h, if_pos (by omega)]
  ·rw [if_neg h, if_neg (by omega)]
theorem prw_end {i j : Nat} : prw t x y i j t.length = prw t x y i (j + 1) 0 :=
 rowF_congr fun c hc => by rw [if_pos hc, if_neg (Nat.not_lt_zero c)]
theorem prw_skip {i j : Nat} (h : x.getD i 0 * y.getD j 0 = 0) : prw t x y i j 0 = prw t x y i (j + 1) 0 :=
 rowF_congr fun c _ => by
  rw [if_neg (Nat.not_lt_zero c), if_neg (Nat.not_lt_zero c), pPart_step]
  unfold pTm
  rw [h]
  omega
theorem prw_row {i : Nat} : prw t x y i t.length 0 = prw t x y (i + 1) 0 0 :=
 rowF_congr fun c _ => by rw [if_neg (Nat.not_lt_zero c), if_neg (Nat.not_lt_zero c), pPart_row]
theorem prw_fin : prw t x y t.length 0 0 = prodL t x y :=
 rowF_congr fun c _ => by rw [if_neg (Nat.not_lt_zero c), pPart_end]
theorem prw_zero : List.replicate t.length (0 : Int) = prw t x y 0 0 0 := by
 apply List.ext_getElem
 ·simp [prw, rowF]
 ·intro k h1 h2
  simp [prw, rowF, pPart_zero]
end
noncomputable def mvR (t : Cu) (x y : List Int) : Option (List Int) × Int :=
 if isRing t then (if bd (VecX t.length 1000000 x ∧ VecX t.length 1000000 y) then (some (prodL t x y), 0) else (none, 2)) else (none, 1)
end Go.Pl
namespace Go.Pl
open Go.Aw
section
variable {t : Cu}
theorem at0 (h : RingP t) {i j : Nat} (hi : i < t.length) (hj : j < t.length) : e3 t i j 0 = if (j : Int) = dual t i then 1 else 0 := by
 have d := h.dual i hi
 have d2 := h.dual j hj
 have h0 := h.cube.1
 have a : e3 t i j 0 = e3 t 0 (dual t j).toNat i := h.turn2 i hi j hj 0 (by omega)
 rw [a, h.left _ (by omega) i hi]
 unfold dl
 by_cases e : (j : Int) = dual t i
 ·rw [if_pos e]
  have : dual t j = i := by
   have := h.invo i hi
   rw [← e] at this
   simpa using this
  rw [if_pos (by rw [this]; simp)]
 ·rw [if_neg e, if_neg ?_]
  intro h2
  apply e
  have h3 := h.invo j hj
  have h4 : (dual t j).toNat = i := by omega
  rw [h4] at h3
  exact h3.symm
end
end Go.Pl
