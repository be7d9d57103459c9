/-
  What the laws do with an argument of two tables: its size, its copy, its equality; and how the row reads it.
-/
import Derived.Test.YtbddekioaigbhaaWx1
import Derived.Test.YtbddekioaigbhaaBr
import Derived.Test.YtbddekioaigbhaaLib5
set_option linter.unusedSimpArgs false
set_option linter.unusedVariables false
namespace Go.Proofs.Ytbddekioaigbhaa
open Go Go.Aw Go.Pl

def szD (s : List (List Int)) (t : List Int) (l : Int) : Int := if sz2 s l < 0 then -1 else sz1 t (sz2 s l)
theorem szD_ok (s : List (List Int)) (t : List Int) (l : Int) (hl : 0 ≤ l) : szD s t l = -1 ∨ (0 ≤ szD s t l ∧ szD s t l ≤ l) := by
  have h2 := sz2_ok s l hl
  unfold szD
  by_cases h : sz2 s l < 0
  · rw [if_pos h]; exact .inl rfl
  · rw [if_neg h]
    have h1 := sz1_ok t (sz2 s l) (by omega)
    omega
def SmallD (s : List (List Int)) (t : List Int) : Prop := (s.length ≤ 1099511627776 ∧ ∀ x ∈ s, x.length ≤ 1099511627776) ∧ t.length ≤ 1099511627776
def totD (s : List (List Int)) (t : List Int) : Nat := tot List.length s + t.length
theorem szD_small {s : List (List Int)} {t : List Int} {l : Int} (hl : l ≤ 1048576) (h : ¬ szD s t l < 0) (h0 : 0 ≤ l) : SmallD s t ∧ (totD s t : Nat) ≤ l := by
  have h2 := sz2_ok s l h0
  unfold szD at h
  by_cases hn : sz2 s l < 0
  · rw [if_pos hn] at h; exact absurd (by decide) h
  · rw [if_neg hn] at h
    have c1 : ∀ (x : List Int) (l : Int), 0 ≤ l → l ≤ 1048576 → ¬ sz1 x l < 0 → (x.length : Int) ≤ 1048576 ∧ sz1 x l ≤ l - (x.length : Nat) := fun x l _ hl h => by
      unfold sz1 at h ⊢
      by_cases h1 : l - x.length < 0
      · rw [if_pos h1] at h; exact absurd (by decide) h
      · rw [if_neg h1]; omega
    obtain ⟨⟨k1, k2⟩, k3⟩ := sz0_cost (n := List.length) (p := fun x => (x.length : Int) ≤ 1048576) 1048576 c1 s l hl hn
    obtain ⟨j1, j2⟩ := sz1_small (l := sz2 s l) (by omega) h (by omega)
    have k3' : sz2 s l ≤ l - (tot List.length s : Nat) := k3
    refine ⟨⟨⟨by omega, fun x hx => by have := k2 x hx; omega⟩, j1⟩, ?_⟩
    unfold totD
    omega

section
variable {H : Type} {enc : TypeId × Value → H} {W : World} {base : Nat} {v : Value} {d : DataW H} {p : List MemPlace}
end
end Go.Proofs.Ytbddekioaigbhaa
