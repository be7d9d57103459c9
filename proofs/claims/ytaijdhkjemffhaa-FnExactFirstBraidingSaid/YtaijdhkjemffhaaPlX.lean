import Derived.Test.YtaijdhkjemffhaaPl5
set_option linter.unusedSimpArgs false
set_option linter.unusedVariables false
namespace Go.Pl
open Go
def fr (t : List Int) (i : Nat) : Bool := decide (1 ≤ i) && decide (t.getD i 0 = 1)
def cntF (t : List Int) : Nat → Nat → Nat
  | _, 0 => 0
  | i, d + 1 => (if fr t i = true then 1 else 0) + cntF t (i + 1) d
def dgt (B c e : Nat) : Int := ((c / B ^ e % B : Nat) : Int)
def fillV (t : List Int) (B : Nat) : Nat → Nat → Nat → List Int
  | _, 0, _ => []
  | i, d + 1, c => (if fr t i = true then dgt B c (cntF t (i + 1) d) else 0) :: fillV t B (i + 1) d c
theorem dgt_low {B a m r e : Nat} (hB : 0 < B) (h : e < m) : dgt B (a * B ^ m + r) e = dgt B r e := by
  unfold dgt
  obtain ⟨k, rfl⟩ : ∃ k, m = e + 1 + k := ⟨m - e - 1, by omega⟩
  have e1 : a * B ^ (e + 1 + k) + r = r + B ^ e * (B * (a * B ^ k)) := by
    rw [Nat.pow_add, Nat.pow_succ]
    have : a * (B ^ e * B * B ^ k) = B ^ e * (B * (a * B ^ k)) := by ac_rfl
    omega
  rw [e1, Nat.add_mul_div_left _ _ (Nat.pow_pos hB), Nat.add_mul_mod_self_left]
theorem dgt_top {B a m r : Nat} (hB : 0 < B) (ha : a < B) (hr : r < B ^ m) : dgt B (a * B ^ m + r) m = (a : Int) := by
  unfold dgt
  rw [Nat.add_comm, Nat.add_mul_div_right _ _ (Nat.pow_pos hB), Nat.div_eq_of_lt hr, Nat.zero_add, Nat.mod_eq_of_lt ha]
theorem range_mul (M : Nat) : ∀ B, List.range (B * M) = (List.range B).flatMap fun a => (List.range M).map fun c => a * M + c
  | 0 => by simp
  | B + 1 => by
    rw [Nat.succ_mul, List.range_add, range_mul M B, List.range_succ, List.flatMap_append]
    simp
def extV (t : List Int) (B : Nat) : Nat → List Int → List (List Int)
  | 0, v => [v]
  | d + 1, v => (List.range (if fr t v.length = true then B else 1)).flatMap fun (a : Nat) => extV t B d (v ++ [(a : Int)])
theorem flatMap_congr_mem {α β : Type} {xs : List α} {f g : α → List β} (h : ∀ x ∈ xs, f x = g x) : xs.flatMap f = xs.flatMap g := by
  induction xs with
  | nil => rfl
  | cons x xs ih =>
    rw [List.flatMap_cons, List.flatMap_cons, h x (by simp), ih (fun y hy => h y (by simp [hy]))]
def cb (t : List Int) (i : Nat) : Nat := cntF t 0 i
def plc (t : List Int) (i : Nat) : List Int := ((List.range i).filter (fr t)).map fun (j : Nat) => (j : Int)
def dgF (B k s c : Nat) (x : Nat) : Int := if k ≤ x + s then dgt B c (k - 1 - x) else 0
def vF (t : List Int) (B n c j : Nat) (x : Nat) : Int := if x = 0 then 1 else if fr t x = true ∧ cb t x < j then dgt B c (cb t n - 1 - cb t x) else 0
def vOf (t : List Int) (B c : Nat) : List Int := rowF t.length (vF t B t.length c (cb t t.length))
end Go.Pl
