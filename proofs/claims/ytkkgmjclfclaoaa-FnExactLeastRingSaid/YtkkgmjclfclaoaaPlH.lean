import Derived.Test.YtkkgmjclfclaoaaPlG
set_option linter.unusedSimpArgs false
set_option linter.unusedVariables false
namespace Go.Pl
open Go.Aw
def numsB (xs : List Int) : Bool := !(xs.any fun n => !(decide (0 ≤ n) && decide (n ≤ 55440)))
def dotP (x y : List Int) (n : Nat) : Int := sumTo (dotG x y) n % 55441
theorem fidx_lt {α : Type} {p : α → Bool} {xs : List α} : -1 ≤ fidx p xs ∧ fidx p xs < xs.length := by
  unfold fidx
  cases h : xs.findIdx? p with
  | none => simp only; omega
  | some i =>
    rw [List.findIdx?_eq_some_iff_getElem] at h
    obtain ⟨hi, _, _⟩ := h
    simp only; omega
theorem fidx_at {α : Type} {d : α} {p : α → Bool} {xs : List α} (h : 0 ≤ fidx p xs) : p (xs.getD (fidx p xs).toNat d) = true ∧ ∀ j, j < (fidx p xs).toNat → p (xs.getD j d) = false := by
  unfold fidx at h ⊢
  cases hf : xs.findIdx? p with
  | none => rw [hf] at h; simp at h
  | some i =>
    rw [List.findIdx?_eq_some_iff_getElem] at hf
    obtain ⟨hi, hp, hj⟩ := hf
    simp only [Int.toNat_natCast]
    refine ⟨by simpa [List.getD, hi] using hp, fun j hj' => ?_⟩
    have h2 := hj j hj'
    have hjl : j < xs.length := by omega
    simpa [List.getD, hjl] using h2
section
variable {s : List (List Int)} {t : List Int}
def aI (s : List (List Int)) (n i : Nat) : Int := fidx (fun x => decide (x = wholeD s n)) ((sqD s n).getD i [])
def Sp (s : List (List Int)) (t : List Int) (i : Nat) : Prop := Good s t.length i ∧ (∀ j, j < i → cI s t.length j ≠ cI s t.length i) ∧ t.getD (cI s t.length i).toNat 0 = t.getD i 0
end
end Go.Pl
