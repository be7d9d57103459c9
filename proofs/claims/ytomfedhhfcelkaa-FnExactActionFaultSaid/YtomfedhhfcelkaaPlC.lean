/-
  The first of a search; the faults of a ring. Of no program.
-/
import Derived.Test.YtomfedhhfcelkaaPlB
set_option linter.unusedSimpArgs false
set_option linter.unusedVariables false
namespace Go.Pl
open Go.Aw

def first {α : Type} (n : Nat) (f : Nat → Option α) : Option α := (List.range n).findSome? f
theorem first_none {α : Type} {n : Nat} {f : Nat → Option α} (h : ∀ i, i < n → f i = none) : first n f = none := by
  unfold first
  rw [List.findSome?_eq_none_iff]
  intro x hx
  exact h x (by simpa using hx)
theorem first_some {α : Type} {n : Nat} {f : Nat → Option α} {i : Nat} {a : α} (hi : i < n) (h : ∀ j, j < i → f j = none) (ha : f i = some a) : first n f = some a := by
  unfold first
  rw [List.findSome?_eq_some_iff]
  refine ⟨List.range i, i, (List.range n).drop (i + 1), ?_, ha, fun x hx => h x (by simpa using hx)⟩
  rw [← range_drop hi]
  have : List.range i = (List.range n).take i := by rw [List.take_range, Nat.min_eq_left (by omega)]
  rw [this, List.take_append_drop]

def optA : Option (List Int) → AV
  | some xs => .l1 xs
  | none => .nil
def orE {α : Type} (a b : Option α) : Option α :=
  match a with
  | some x => some x
  | none => b

def sumTo (f : Nat → Int) : Nat → Int
  | 0 => 0
  | n + 1 => sumTo f n + f n
theorem sumTo_le {f : Nat → Int} {B : Int} {n : Nat} (h : ∀ i, i < n → 0 ≤ f i ∧ f i ≤ B) : 0 ≤ sumTo f n ∧ sumTo f n ≤ n * B := by
  induction n with
  | zero => simp [sumTo]
  | succ n ih =>
    have h1 := ih (fun i hi => h i (by omega))
    have h2 := h n (by omega)
    simp only [sumTo, Int.natCast_add, Int.add_mul]
    omega
theorem mul_bd {a b : Int} (ha : InM a) (hb : InM b) : 0 ≤ a * b ∧ a * b ≤ 1000000 := by
  refine ⟨Int.mul_nonneg ha.1 hb.1, ?_⟩
  have h1 : a * b ≤ 1000 * b := Int.mul_le_mul_of_nonneg_right ha.2 hb.1
  have := hb.2
  omega

def dl (i k : Nat) : Int := if (i : Int) = (k : Int) then 1 else 0
def unitG (t : List (List (List Int))) (i k : Nat) : Option (List Int) := if e3 t 0 i k ≠ dl i k ∨ e3 t i 0 k ≠ dl i k then some [0, (i : Int), (k : Int)] else none
def unitF (t : List (List (List Int))) : Option (List Int) := first t.length fun i => first t.length (unitG t i)
def dualH (t : List (List (List Int))) (i : Nat) : Option (List Int) := if dual t i < 0 ∨ dual t (dual t i).toNat ≠ i then some [1, (i : Int)] else none
def dualF (t : List (List (List Int))) : Option (List Int) := first t.length (dualH t)
def turnG (t : List (List (List Int))) (i j k : Nat) : Option (List Int) := if e3 t i j k ≠ e3 t (dual t i).toNat k j ∨ e3 t i j k ≠ e3 t k (dual t j).toNat i then some [2, (i : Int), (j : Int), (k : Int)] else none
def turnF (t : List (List (List Int))) : Option (List Int) := first t.length fun i => first t.length fun j => first t.length (turnG t i j)
def brL (t : List (List (List Int))) (i j k l m : Nat) : Int := e3 t i j m * e3 t m k l
def brR (t : List (List (List Int))) (i j k l m : Nat) : Int := e3 t j k m * e3 t i m l
def brackG (t : List (List (List Int))) (i j k l : Nat) : Option (List Int) := if sumTo (brL t i j k l) t.length ≠ sumTo (brR t i j k l) t.length then some [3, (i : Int), (j : Int), (k : Int), (l : Int)] else none
def brackF (t : List (List (List Int))) : Option (List Int) := first t.length fun i => first t.length fun j => first t.length fun k => first t.length (brackG t i j k)
def faultF (t : List (List (List Int))) : Option (List Int) := orE (unitF t) (orE (dualF t) (orE (turnF t) (brackF t)))

theorem ite_none {p : Prop} [Decidable p] {α : Type} {a : α} (h : ¬ p) : (if p then some a else none) = none := if_neg h

theorem first_none_iff {α : Type} {n : Nat} {f : Nat → Option α} : first n f = none ↔ ∀ i, i < n → f i = none := by
  constructor
  · intro h i hi
    unfold first at h
    rw [List.findSome?_eq_none_iff] at h
    exact h i (by simpa using hi)
  · exact first_none
def ds (t : List (List (List Int))) : List Int := (List.range t.length).map (dual t)
theorem ds_length (t : List (List (List Int))) : (ds t).length = t.length := by simp [ds]
theorem ds_get {t : List (List (List Int))} {i : Nat} (h : i < t.length) : (ds t).getD i 0 = dual t i := by simp [ds, List.getD, h]
theorem dual_ok {t : List (List (List Int))} (hd : dualF t = none) {i : Nat} (h : i < t.length) : 0 ≤ dual t i ∧ (dual t i).toNat < t.length ∧ dual t (dual t i).toNat = i := by
  have h1 := first_none_iff.1 hd i h
  have h2 := dual_range t i
  unfold dualH at h1
  split at h1
  · cases h1
  · rename_i h3
    simp only [not_or, Int.not_lt, ne_eq, Decidable.not_not] at h3
    exact ⟨h3.1, by omega, h3.2⟩

theorem brL_bd {t : List (List (List Int))} (hc : Cube t) {i j k l : Nat} (hi : i < t.length) (hj : j < t.length) (hk : k < t.length) (hl : l < t.length) : ∀ m, m < t.length → 0 ≤ brL t i j k l m ∧ brL t i j k l m ≤ 1000000 := fun _ hm => mul_bd (hc.inM hi hj hm) (hc.inM hm hk hl)
theorem brR_bd {t : List (List (List Int))} (hc : Cube t) {i j k l : Nat} (hi : i < t.length) (hj : j < t.length) (hk : k < t.length) (hl : l < t.length) : ∀ m, m < t.length → 0 ≤ brR t i j k l m ∧ brR t i j k l m ≤ 1000000 := fun _ hm => mul_bd (hc.inM hj hk hm) (hc.inM hi hm hl)

theorem first_all {α : Type} {P : α → Prop} {n : Nat} {f : Nat → Option α} {a : α} (h : first n f = some a) (hp : ∀ i x, f i = some x → P x) : P a := by
  unfold first at h
  rw [List.findSome?_eq_some_iff] at h
  obtain ⟨_, i, _, _, hi, _⟩ := h
  exact hp i a hi
theorem unitF_ne {t : List (List (List Int))} {u : List Int} (h : unitF t = some u) : 0 < u.length :=
  first_all (P := fun u => 0 < u.length) h fun i x hx => first_all (P := fun u => 0 < u.length) hx fun k y hy => by
    unfold unitG at hy; split at hy <;> cases hy; simp
theorem turnF_ne {t : List (List (List Int))} {u : List Int} (h : turnF t = some u) : 0 < u.length :=
  first_all (P := fun u => 0 < u.length) h fun i x hx => first_all (P := fun u => 0 < u.length) hx fun k y hy => first_all (P := fun u => 0 < u.length) hy fun k z hz => by
    unfold turnG at hz; split at hz <;> cases hz; simp
theorem brackF_ne {t : List (List (List Int))} {u : List Int} (h : brackF t = some u) : 0 < u.length :=
  first_all (P := fun u => 0 < u.length) h fun i x hx => first_all (P := fun u => 0 < u.length) hx fun k y hy => first_all (P := fun u => 0 < u.length) hy fun k z hz => first_all (P := fun u => 0 < u.length) hz fun k q hq => by
    unfold brackG at hq; split at hq <;> cases hq; simp
theorem dualF_shape {t : List (List (List Int))} {u : List Int} (h : dualF t = some u) : ∃ i : Nat, u = [1, (i : Int)] :=
  first_all (P := fun u => ∃ i : Nat, u = [1, (i : Int)]) h fun i x hx => by
    unfold dualH at hx; split at hx <;> cases hx; exact ⟨i, rfl⟩
theorem faultF_ne {t : List (List (List Int))} {u : List Int} (h : faultF t = some u) : 0 < u.length := by
  unfold faultF orE at h
  cases h1 : unitF t with
  | some x => rw [h1] at h; cases h; exact unitF_ne h1
  | none =>
    rw [h1] at h
    cases h2 : dualF t with
    | some x => rw [h2] at h; cases h; obtain ⟨i, rfl⟩ := dualF_shape h2; simp
    | none =>
      rw [h2] at h
      cases h3 : turnF t with
      | some x => rw [h3] at h; cases h; exact turnF_ne h3
      | none => rw [h3] at h; exact brackF_ne h

end Go.Pl
