/-
  Joined out of: Em En Eo Ep.
-/
import Derived.Test.YtkkgmjclfclaoaaPlR
import Derived.Test.YtkkgmjclfclaoaaLib6
import Derived.Test.YtkkgmjclfclaoaaWo
import Derived.Test.YtkkgmjclfclaoaaDr
import Derived.Test.YtkkgmjclfclaoaaDs
set_option linter.unusedSimpArgs false
set_option linter.unusedVariables false
namespace Go.Proofs.Ytkkgmjclfclaoaa
open Go Go.Aw Go.Pl

theorem u64_and : ∀ m : Nat, m < 17 → IntKind.wrap .u64 ((BitVec.ofInt (IntKind.bits .u64) (m : Int) &&& BitVec.ofInt (IntKind.bits .u64) 4294967295).toNat : Int) = m := by decide
theorem u64_shr : ∀ m : Nat, m < 17 → (m : Int).fdiv (2 ^ min (32 : Int).toNat (IntKind.bits .u64)) = 0 := by decide
/-- A list of 'm' numbers -1 of which 'k' are written. -/
def rpL (m k : Nat) : List Int := List.replicate k (-1) ++ List.replicate (m - k) 0
theorem rpL_length {m k : Nat} (h : k ≤ m) : (rpL m k).length = m := by simp [rpL]; omega
theorem rpL_take {m k : Nat} : (rpL m k).take k = List.replicate k (-1) := by simp [rpL]
theorem rpL_step {m k : Nat} (h : k ≤ m) : cpL (rpL m k) (((rpL m k).take k).drop 0) k m = rpL m (k + min (m - k) k) := by
  rw [rpL_take, List.drop_zero]
  unfold cpL
  rw [rpL_take, List.take_replicate, List.length_replicate]
  unfold rpL
  rw [List.drop_append, List.drop_replicate, List.drop_replicate, List.length_replicate, List.replicate_append_replicate]
  have e1 : k - (k + min (m - k) k) = 0 := by omega
  have e2 : m - k - (k + min (m - k) k - k) = m - (k + min (m - k) k) := by omega
  rw [e1, e2, List.replicate_zero, List.nil_append]

/-- The greatest of a list's first numbers. -/
def mx (xs : List Int) : Nat → Int
  | 0 => xs.getD 0 0
  | k + 1 => max (mx xs k) (xs.getD (k + 1) 0)
end Go.Proofs.Ytkkgmjclfclaoaa

namespace Go.Proofs.Ytkkgmjclfclaoaa
open Go Go.Aw Go.Pl

end Go.Proofs.Ytkkgmjclfclaoaa

namespace Go.Proofs.Ytkkgmjclfclaoaa
open Go Go.Aw Go.Pl

end Go.Proofs.Ytkkgmjclfclaoaa

namespace Go.Proofs.Ytkkgmjclfclaoaa
open Go Go.Aw Go.Pl

/-- What both sides' parts ask for. -/
theorem act_parts {t a : List (List (List Int))} (h : isAct t a = true) : (∀ i, i < a.length → MatOk (a.getD 0 []).length (a.getD i [])) ∧ 1 ≤ (a.getD 0 []).length ∧ (a.getD 0 []).length ≤ 16 ∧ 0 < a.length ∧ a.length ≤ 16 := by
  have fa := isAct_fam h
  have h16 := (isAct_ring h).1.2.1
  have h1 := (isAct_ring h).1.1
  have la := fa.1
  exact ⟨fa.2.2.2.2, fa.2.2.1, fa.2.2.2.1, by omega, by omega⟩
/-- All points have the number 0. -/
def oneB (xs : List Int) : Bool := !xs.any fun v => !decide (v = 0)
noncomputable def idB (t a : List (List (List Int))) : Bool := isAct t a && oneB (partsL a)
noncomputable def idC (t a : List (List (List Int))) : Int := if isAct t a = true then 0 else 1
theorem not_act {t a : List (List (List Int))} (h : ¬ isAct t a = true) : isAct t a = false := by
  cases e : isAct t a with
  | true => exact absurd e h
  | false => rfl
theorem oneB_no {xs : List Int} {i : Nat} (h : i < xs.length) (h2 : ¬ xs.getD i 0 = 0) : oneB xs = false := by
  unfold oneB
  rw [Bool.not_eq_false', List.any_eq_true]
  refine ⟨xs.getD i 0, ?_, by simpa using h2⟩
  rw [List.getD_eq_getElem?_getD, List.getElem?_eq_getElem h]
  exact List.getElem_mem h
theorem oneB_yes {xs : List Int} (h : ∀ i, i < xs.length → xs.getD i 0 = 0) : oneB xs = true := by
  unfold oneB
  rw [Bool.not_eq_true', List.any_eq_false]
  intro v hv
  obtain ⟨i, hi, rfl⟩ := List.getElem_of_mem hv
  have := h i hi
  rw [List.getD_eq_getElem?_getD, List.getElem?_eq_getElem hi] at this
  simpa using this
theorem mx_le {xs : List Int} : ∀ (k i : Nat), i ≤ k → xs.getD i 0 ≤ mx xs k
  | 0, i, h => by obtain rfl : i = 0 := by omega
                  exact Int.le_refl _
  | k + 1, i, h => by
    rw [mx]
    by_cases e : i = k + 1
    · subst e; omega
    · have := mx_le (xs := xs) k i (by omega); omega
theorem mx_at {xs : List Int} : ∀ (k : Nat), ∃ i, i ≤ k ∧ mx xs k = xs.getD i 0
  | 0 => ⟨0, by omega, rfl⟩
  | k + 1 => by
    obtain ⟨i, hi, e⟩ := mx_at (xs := xs) k
    rw [mx]
    by_cases c : mx xs k ≤ xs.getD (k + 1) 0
    · exact ⟨k + 1, by omega, by omega⟩
    · exact ⟨i, by omega, by omega⟩
theorem mx_one {xs : List Int} (h1 : 1 ≤ xs.length) (h : ∀ i, i < xs.length → 0 ≤ xs.getD i 0) : decide (mx xs (xs.length - 1) = 0) = oneB xs := by
  by_cases c : ∀ i, i < xs.length → xs.getD i 0 = 0
  · rw [oneB_yes c, decide_eq_true_eq]
    obtain ⟨i, hi, e⟩ := mx_at (xs := xs) (xs.length - 1)
    rw [e, c i (by omega)]
  · obtain ⟨i, hi⟩ := Classical.not_forall.1 c
    obtain ⟨h2, h3⟩ := Classical.not_imp.1 hi
    rw [oneB_no h2 h3, decide_eq_false_iff_not]
    have := mx_le (xs := xs) (xs.length - 1) i (by omega)
    have := h i h2
    omega

end Go.Proofs.Ytkkgmjclfclaoaa
