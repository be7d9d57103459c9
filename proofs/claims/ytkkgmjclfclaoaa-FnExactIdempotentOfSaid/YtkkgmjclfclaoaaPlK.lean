/-
  Powers of numbers by the prime, as powers of integers. Of no program.
-/
import Derived.Test.YtkkgmjclfclaoaaPlJ
set_option linter.unusedSimpArgs false
set_option linter.unusedVariables false
namespace Go.Pl
open Go.Aw

theorem ipow_add (a : Int) (m : Nat) : ∀ n, a ^ (m + n) = a ^ m * a ^ n
  | 0 => by simp
  | n + 1 => by rw [← Nat.add_assoc, Int.pow_succ, ipow_add a m n, Int.pow_succ, Int.mul_assoc]
theorem ipow_mul (a : Int) (m : Nat) : ∀ n, a ^ (m * n) = (a ^ m) ^ n
  | 0 => by simp
  | n + 1 => by rw [Nat.mul_add, Nat.mul_one, ipow_add, ipow_mul a m n, Int.pow_succ]
theorem imul_pow (a b : Int) : ∀ n : Nat, (a * b) ^ n = a ^ n * b ^ n
  | 0 => by simp
  | n + 1 => by rw [Int.pow_succ, imul_pow a b n, Int.pow_succ, Int.pow_succ]; simp only [Int.mul_assoc, Int.mul_left_comm, Int.mul_comm]
theorem isq (a : Int) : a * a = a ^ 2 := by simp [Int.pow_succ]
theorem pow_cg {a b : Int} (h : a % 55441 = b % 55441) : ∀ k : Nat, a ^ k % 55441 = b ^ k % 55441
  | 0 => by simp
  | k + 1 => by rw [Int.pow_succ, Int.pow_succ]; exact cgm (pow_cg h k) h
theorem pwL_cg : ∀ (k : Nat) (out a : Int), pwL out a k % 55441 = out * a ^ k % 55441 := by
  intro k
  induction k using Nat.strongRecOn with
  | _ k ih =>
    intro out a
    by_cases h : k = 0
    · subst h; rw [pwL_zero]; simp
    · rw [pwL_step h, ih (k / 2) (by omega), cgm rfl (pow_cg (emd (a * a)) (k / 2)), isq, ← ipow_mul]
      by_cases ho : k % 2 = 1
      · rw [if_pos ho, mul_md, Int.mul_assoc, Int.mul_comm a, ← Int.pow_succ]
        have : (2 * (k / 2)).succ = k := by omega
        rw [this]
      · rw [if_neg ho]
        have : 2 * (k / 2) = k := by omega
        rw [this]
theorem md_InP {a : Int} (h : InP a) : a % 55441 = a := by
  unfold InP at h
  omega
theorem pw_eq {a : Int} {k : Nat} (h : InP a) : pw a k = a ^ k % 55441 := by
  rw [← md_InP (pw_InP (k := k) h), pw, pwL_cg, Int.one_mul]
theorem inv_cg {a : Int} (h : InP a) : inv a % 55441 = a ^ 55439 % 55441 := by
  unfold inv
  rw [pw_eq h, emd]
theorem inv_pw {a : Int} {k : Nat} (h : InP a) : 1 * inv (pw a k) % 55441 = pw (inv a) k := by
  rw [Int.one_mul, inv_cg (pw_InP h), pw_eq (inv_InP h), pow_cg (b := a ^ k) (by rw [pw_eq h, emd]), pow_cg (inv_cg h) k, ← ipow_mul, ← ipow_mul, Nat.mul_comm]
/-- A power with any exponent. -/
def rs (a k : Int) : Int := if k < 0 then pw (inv a) (-k).toNat else pw a k.toNat
theorem rs_InP {a k : Int} (h : InP a) : InP (rs a k) := by
  unfold rs
  split
  · exact pw_InP (inv_InP h)
  · exact pw_InP h
theorem rs_neg {a k : Int} (h : InP a) (hk : k < 0) : 1 * inv (pw a (-k).toNat) % 55441 = rs a k := by
  unfold rs
  rw [if_pos hk, inv_pw h]
theorem rs_neg' {a k : Int} (hk : k < 0) : pw (inv a) (-k).toNat = rs a k := by
  unfold rs
  rw [if_pos hk]
theorem rs_pos {a k : Int} (hk : ¬ k < 0) : pw a k.toNat = rs a k := by
  unfold rs
  rw [if_neg hk]
/-- What a quotient of powers is. -/
theorem rs_div {a b k : Int} (ha : InP a) (hb : InP b) : rs a k * inv (rs b k) % 55441 = rs (a * inv b % 55441) k := by
  have hi := inv_InP hb
  have hp := inP_md (a * inv b)
  by_cases hk : k < 0
  · rw [← rs_neg' hk, ← rs_neg' hk, ← rs_neg' hk, pw_eq (inv_InP ha), pw_eq hi, pw_eq (inv_InP hp), cgm (emd _) (inv_cg (inP_md _)), cgm rfl (pow_cg (emd _) _)]
    rw [pow_cg ((inv_cg hp).trans (pow_cg (emd _) _)), imul_pow, imul_pow, cgm (pow_cg (inv_cg ha) _) rfl]
    congr 2
    rw [← ipow_mul, ← ipow_mul, Nat.mul_comm]
  · rw [← rs_pos hk, ← rs_pos hk, ← rs_pos hk, pw_eq ha, pw_eq hb, pw_eq hp, cgm (emd _) (inv_cg (inP_md _)), cgm rfl (pow_cg (emd _) _), pow_cg (emd _), imul_pow, cgm (b' := inv b ^ k.toNat) rfl]
    rw [← ipow_mul, Nat.mul_comm, ipow_mul]
    exact pow_cg (inv_cg hb).symm _
end Go.Pl
