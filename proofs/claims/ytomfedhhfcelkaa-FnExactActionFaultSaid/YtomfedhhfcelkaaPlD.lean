/-
  Families of matrices. Of no program.
-/
import Derived.Test.YtomfedhhfcelkaaPlC
set_option linter.unusedSimpArgs false
set_option linter.unusedVariables false
namespace Go.Pl
open Go.Aw

def Fam (t a : List (List (List Int))) : Prop := a.length = t.length ∧ a.length ≠ 0 ∧ 1 ≤ (a.getD 0 []).length ∧ (a.getD 0 []).length ≤ 16 ∧ ∀ i, i < a.length → MatOk (a.getD 0 []).length (a.getD i [])
def unitM (n : Nat) : List (List Int) := (List.range n).map fun i => (List.replicate n 0).set i 1
def turnM (a : List (List Int)) : List (List Int) := (List.range (a.getD 0 []).length).map fun k => (List.range a.length).map fun i => e2 a i k
noncomputable def isRing (t : List (List (List Int))) : Bool := bd (Cube t ∧ faultF t = none)

theorem Fam.mat {t a : List (List (List Int))} (h : Fam t a) {i : Nat} (hi : i < a.length) : (a.getD i []).length = (a.getD 0 []).length := (h.2.2.2.2 i hi).1
theorem Fam.row {t a : List (List (List Int))} (h : Fam t a) {i j : Nat} (hi : i < a.length) (hj : j < (a.getD 0 []).length) : ((a.getD i []).getD j []).length = (a.getD 0 []).length := ((h.2.2.2.2 i hi).2 j hj).1
theorem Fam.inM {t a : List (List (List Int))} (h : Fam t a) {i j k : Nat} (hi : i < a.length) (hj : j < (a.getD 0 []).length) (hk : k < (a.getD 0 []).length) : InM (e3 a i j k) := ((h.2.2.2.2 i hi).2 j hj).2 k hk
def prL (a : List (List (List Int))) (i j x y z : Nat) : Int := e3 a i x z * e3 a j z y
def prR (t a : List (List (List Int))) (i j x y k : Nat) : Int := e3 t i j k * e3 a k x y
def ProdOk (t a : List (List (List Int))) (i j : Nat) : Prop := ∀ x, x < (a.getD 0 []).length → ∀ y, y < (a.getD 0 []).length → sumTo (prL a i j x y) (a.getD 0 []).length = sumTo (prR t a i j x y) t.length
theorem prL_bd {t a : List (List (List Int))} (hf : Fam t a) {i j x y : Nat} (hi : i < a.length) (hj : j < a.length) (hx : x < (a.getD 0 []).length) (hy : y < (a.getD 0 []).length) : ∀ z, z < (a.getD 0 []).length → 0 ≤ prL a i j x y z ∧ prL a i j x y z ≤ 1000000 := fun _ hz => mul_bd (hf.inM hi hx hz) (hf.inM hj hz hy)
theorem prR_bd {t a : List (List (List Int))} (hc : Cube t) (hf : Fam t a) {i j x y : Nat} (hi : i < t.length) (hj : j < t.length) (hx : x < (a.getD 0 []).length) (hy : y < (a.getD 0 []).length) : ∀ k, k < t.length → 0 ≤ prR t a i j x y k ∧ prR t a i j x y k ≤ 1000000 := fun _ hk => mul_bd (hc.inM hi hj hk) (hf.inM (by rw [hf.1]; exact hk) hx hy)
def actA (a : List (List (List Int))) : Option (List Int) := if a.getD 0 [] = unitM (a.getD 0 []).length then none else some [0]
noncomputable def actG (t a : List (List (List Int))) (i j : Nat) : Option (List Int) := if bd (ProdOk t a i j) = true then none else some [1, (i : Int), (j : Int)]
def actH (t a : List (List (List Int))) (i : Nat) : Option (List Int) := if a.getD (dual t i).toNat [] = turnM (a.getD i []) then none else some [2, (i : Int)]
noncomputable def actF (t a : List (List (List Int))) : Option (List Int) := orE (actA a) (orE (first t.length fun i => first t.length (actG t a i)) (first t.length (actH t a)))

theorem faultF_dual {t : List (List (List Int))} (h : faultF t = none) : dualF t = none := by
  unfold faultF orE at h
  cases h1 : unitF t with
  | some x => rw [h1] at h; cases h
  | none =>
    rw [h1] at h
    cases h2 : dualF t with
    | some x => rw [h2] at h; cases h
    | none => rfl
theorem actF_ne {t a : List (List (List Int))} {u : List Int} (h : actF t a = some u) : 0 < u.length := by
  unfold actF orE at h
  cases h1 : actA a with
  | some x => rw [h1] at h; cases h; unfold actA at h1; split at h1 <;> cases h1; simp
  | none =>
    rw [h1] at h
    simp only at h
    cases h2 : (first t.length fun i => first t.length (actG t a i)) with
    | some x =>
      rw [h2] at h; cases h
      exact first_all (P := fun u => 0 < u.length) h2 fun i x hx => first_all (P := fun u => 0 < u.length) hx fun k y hy => by
        unfold actG at hy; split at hy <;> cases hy; simp
    | none =>
      rw [h2] at h
      exact first_all (P := fun u => 0 < u.length) h fun i x hx => by
        unfold actH at hx; split at hx <;> cases hx; simp

noncomputable def afF (t a : List (List (List Int))) : Option (List Int) × Int := if isRing t = true ∧ bd (Fam t a) = true then (match actF t a with
  | none => (none, 4)
  | some u => (some u, 0)) else (none, 1)
noncomputable def afA (t a : List (List (List Int))) : AV := .tup [optA (afF t a).1, .int (afF t a).2]
theorem isRing_true {t : List (List (List Int))} (h : isRing t = true) : Cube t ∧ faultF t = none := bd_iff.1 h

end Go.Pl
