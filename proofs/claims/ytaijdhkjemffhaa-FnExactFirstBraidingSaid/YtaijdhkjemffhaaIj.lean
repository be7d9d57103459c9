import Derived.Test.YtaijdhkjemffhaaIi
import Derived.Test.YtaijdhkjemffhaaIh
set_option linter.unusedSimpArgs false
set_option linter.unusedVariables false
namespace Go.Proofs.Ytaijdhkjemffhaa
open Go Go.Aw Go.Pl
theorem ktot_le {α : Type} {n : α → Nat} {B : Nat} : ∀ (xs : List α), (∀ x ∈ xs, n x ≤ B) → tot n xs ≤ xs.length * B
  | [], _ => by simp [tot]
  | x :: xs, h => by
    have h1 := h x (by simp)
    have h2 := ktot_le xs (fun y hy => h y (by simp [hy]))
    simp only [tot, List.length_cons, Nat.add_mul]
    omega
theorem ktot2 {n : Nat} {f : Nat → Nat → Int} (h : n ≤ 16) : tot List.length (matF n n f) ≤ 256 := by
  have h2 := ktot_le (n := List.length) (B := 16) (matF n n f) (fun x hx => by
    simp only [matF, List.mem_map] at hx
    obtain ⟨i, -, rfl⟩ := hx
    rw [rowF_length]; exact h)
  rw [matF_length] at h2
  have := Nat.mul_le_mul_right 16 h
  omega
theorem ktot3 {n : Nat} {f : Nat → Nat → Nat → Int} (h : n ≤ 16) : tot3 (cubF n f) ≤ 4096 := by
  have h2 := ktot_le (n := tot List.length) (B := 256) (cubF n f) (fun x hx => by
    simp only [cubF, List.mem_map] at hx
    obtain ⟨i, -, rfl⟩ := hx
    exact ktot2 h)
  rw [cubF_length] at h2
  have := Nat.mul_le_mul_right 256 h
  unfold tot3
  omega
theorem fbA_shape (o : List Int) (m : Int) (w : List (List (List Int))) (hl : o.length ≤ 1048576) : ∃ (u : Option (List Int × Int × List (List (List Int)) × List (List Int))) (k : Int), fbA o m w = .tup [optB u, .int k] ∧ ∀ v, u = some v → totB v.1 v.2.1 v.2.2.1 v.2.2.2 ≤ 1060000 := by
  unfold fbA
  split
  · rename_i h
    split
    · exact ⟨none, 3, rfl, fun _ h => by cases h⟩
    · split
      · exact ⟨none, 4, rfl, fun _ h => by cases h⟩
      · rename_i b hb
        refine ⟨some (o, m, w, b), 0, rfl, fun v hv => ?_⟩
        cases hv
        have hs := (isCoc_ok h).1
        have n8 := hs.n8.2
        have h3 : tot3 w ≤ 4096 := by rw [← cubF_own hs.2.2.2.2.2]; exact ktot3 (by omega)
        have h2 : tot List.length b ≤ 256 := by rw [← matF_own (isBr_E (first_br hb)).gr]; exact ktot2 (by omega)
        show (o.length + tot3 w) + tot List.length b ≤ _
        omega
  · exact ⟨none, 1, rfl, fun _ h => by cases h⟩
end Go.Proofs.Ytaijdhkjemffhaa
