/-
  Joined out of: Dl Dm Dn Do.
-/
import Derived.Test.YtbddekioaigbhaaDj
import Derived.Test.YtbddekioaigbhaaDf
set_option linter.unusedSimpArgs false
set_option linter.unusedVariables false
namespace Go.Proofs.Ytbddekioaigbhaa
open Go Go.Aw Go.Pl

noncomputable def faultQ (s : List (List Int)) (t : List Int) : Int × Int := if bd (Shape s t) then (if dF s t < 0 then (0, 4) else (dF s t, 0)) else (0, 1)
noncomputable def wholeA (s : List (List Int)) (t : List Int) : Int × Int := if isData s t then (wholeD s t.length, 0) else (0, 1)
end Go.Proofs.Ytbddekioaigbhaa

namespace Go.Proofs.Ytbddekioaigbhaa
open Go Go.Aw Go.Pl

theorem inv_one {x : Int} (h : InP x) : 1 * inv x % 55441 = inv x := by
  have h1 := inv_InP h
  unfold InP at h1
  rw [Int.one_mul]
  omega

noncomputable def centA (s : List (List Int)) (t : List Int) : Int × Int := if isData s t then (gaussD s t t.length * inv (gaussD s (ivF t) t.length) % 55441, 0) else (0, 1)
end Go.Proofs.Ytbddekioaigbhaa

namespace Go.Proofs.Ytbddekioaigbhaa
open Go Go.Aw Go.Pl

def inC (t : List Int) (a : Int) : Bool := decide (0 ≤ a) && decide (a ≤ (t.length : Int) - 1)
noncomputable def chg (s : List (List Int)) (t : List Int) (a : Int) : Int := if isData s t then (if inC t a then 0 else 2) else 1
theorem inC_true {t : List Int} {a : Int} (h : inC t a = true) : 0 ≤ a ∧ a < t.length := by
  simp only [inC, Bool.and_eq_true, decide_eq_true_eq] at h
  omega
noncomputable def gsA (s : List (List Int)) (t : List Int) (g : Int) : Int × Int := if isData s t then (if g = 1 then (gaussD s t t.length, 0) else if g = -1 then (gaussD s (ivF t) t.length, 0) else (0, 2)) else (0, 1)
end Go.Proofs.Ytbddekioaigbhaa

namespace Go.Proofs.Ytbddekioaigbhaa
open Go Go.Aw Go.Pl

theorem pwL_mul : ∀ (k : Nat) {o1 o2 a b : Int}, pwL (o1 * o2 % 55441) (a * b % 55441) k % 55441 = pwL o1 a k * pwL o2 b k % 55441 := by
  intro k
  induction k using Nat.strongRecOn with
  | _ k ih =>
    intro o1 o2 a b
    by_cases h : k = 0
    · subst h
      rw [pwL_zero, pwL_zero, pwL_zero, emd]
    · rw [pwL_step h, pwL_step (out := o1) h, pwL_step (out := o2) h]
      have e1 : a * b % 55441 * (a * b % 55441) % 55441 = a * a % 55441 * (b * b % 55441) % 55441 := by
        rw [← Int.mul_emod, ← Int.mul_emod]
        congr 1
        simp only [Int.mul_assoc, Int.mul_comm, Int.mul_left_comm]
      rw [e1]
      by_cases ho : k % 2 = 1
      · rw [if_pos ho, if_pos ho, if_pos ho]
        have e2 : o1 * o2 % 55441 * (a * b % 55441) % 55441 = o1 * a % 55441 * (o2 * b % 55441) % 55441 := by
          rw [← Int.mul_emod, ← Int.mul_emod]
          congr 1
          simp only [Int.mul_assoc, Int.mul_comm, Int.mul_left_comm]
        rw [e2]
        exact ih (k / 2) (by omega)
      · rw [if_neg ho, if_neg ho, if_neg ho]
        exact ih (k / 2) (by omega)
theorem inv_mul (x y : Int) : inv (x * y % 55441) % 55441 = inv x * inv y % 55441 := by
  have h := pwL_mul 55439 (o1 := 1) (o2 := 1) (a := x) (b := y)
  have e : (1 * 1 % 55441 : Int) = 1 := by decide
  rw [e] at h
  exact h
theorem mon_eq (e x y : Int) : e * inv (x * y % 55441) % 55441 = e * inv x % 55441 * inv y % 55441 := by
  rw [mul_md, Int.mul_assoc]
  exact cgm rfl (inv_mul x y)

noncomputable def monA (s : List (List Int)) (t : List Int) (a b : Int) : Int × Int := if isData s t then (if inC t a && inC t b then (e2 s a.toNat b.toNat * inv (e2 s 0 a.toNat) % 55441 * inv (e2 s 0 b.toNat) % 55441, 0) else (0, 2)) else (0, 1)
end Go.Proofs.Ytbddekioaigbhaa
