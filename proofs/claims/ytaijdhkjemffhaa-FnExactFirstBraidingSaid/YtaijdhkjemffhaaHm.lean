import Derived.Test.YtaijdhkjemffhaaHd
import Derived.Test.YtaijdhkjemffhaaBr
set_option linter.unusedSimpArgs false
set_option linter.unusedVariables false
namespace Go.Proofs.Ytaijdhkjemffhaa
open Go Go.Aw Go.Pl
def Small2 (s : List (List Int)) : Prop := s.length ≤ 1099511627776 ∧ ∀ x ∈ s, x.length ≤ 1099511627776
theorem sz2_small {s : List (List Int)} {l : Int} (hl : l ≤ 1048576) (h : ¬ sz2 s l < 0) (h0 : 0 ≤ l) : Small2 s ∧ (tot2 s : Nat) ≤ l := by
  have h2 := sz2_ok s l h0
  have c1 : ∀ (x : List Int) (l : Int), 0 ≤ l → l ≤ 1048576 → ¬ sz1 x l < 0 → (x.length : Int) ≤ 1048576 ∧ sz1 x l ≤ l - (x.length : Nat) := fun x l _ hl h => by
    unfold sz1 at h ⊢
    by_cases h1 : l - x.length < 0
    · rw [if_pos h1] at h; exact absurd (by decide) h
    · rw [if_neg h1]; omega
  obtain ⟨⟨k1, k2⟩, k3⟩ := sz0_cost (n := List.length) (p := fun x => (x.length : Int) ≤ 1048576) 1048576 c1 s l hl h
  have k3' : sz2 s l ≤ l - (tot2 s : Nat) := k3
  exact ⟨⟨by omega, fun x hx => by have := k2 x hx; omega⟩, by omega⟩
section
variable {H : Type} {enc : TypeId × Value → H} {W : World} {base : Nat} {v : Value} {d : DataW H} {p : List MemPlace}
end
end Go.Proofs.Ytaijdhkjemffhaa
