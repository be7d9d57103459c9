/-
  The shape of what AddBraidings returns.
-/
import Derived.Test.YtjfiahmadnijhaaHp
import Derived.Test.YtjfiahmadnijhaaHq
set_option linter.unusedSimpArgs false
set_option linter.unusedVariables false
namespace Go.Proofs.Ytjfiahmadnijhaa
open Go Go.Aw Go.Pl

theorem btot_le {α : Type} {n : α → Nat} {B : Nat} : ∀ (xs : List α), (∀ x ∈ xs, n x ≤ B) → tot n xs ≤ xs.length * B
  | [], _ => by simp [tot]
  | x :: xs, h => by
    have h1 := h x (by simp)
    have h2 := btot_le xs (fun y hy => h y (by simp [hy]))
    simp only [tot, List.length_cons, Nat.add_mul]
    omega
theorem btot2 {n : Nat} {f : Nat → Nat → Int} (h : n ≤ 16) : tot List.length (matF n n f) ≤ 256 := by
  have h2 := btot_le (n := List.length) (B := 16) (matF n n f) (fun x hx => by
    simp only [matF, List.mem_map] at hx
    obtain ⟨i, -, rfl⟩ := hx
    rw [rowF_length]; exact h)
  rw [matF_length] at h2
  have := Nat.mul_le_mul_right 16 h
  omega
theorem btot3 {n : Nat} {f : Nat → Nat → Nat → Int} (h : n ≤ 16) : tot3 (cubF n f) ≤ 4096 := by
  have h2 := btot_le (n := tot List.length) (B := 256) (cubF n f) (fun x hx => by
    simp only [cubF, List.mem_map] at hx
    obtain ⟨i, -, rfl⟩ := hx
    exact btot2 h)
  rw [cubF_length] at h2
  have := Nat.mul_le_mul_right 256 h
  unfold tot3
  omega
theorem abA_shape (o : List Int) (m : Int) (w : List (List (List Int))) (c : List (List Int)) (o' : List Int) (m' : Int) (w' : List (List (List Int))) (c' : List (List Int)) (hl : o.length ≤ 1048576) : ∃ (u : Option (List Int × Int × List (List (List Int)) × List (List Int))) (k : Int), abA o m w c o' m' w' c' = .tup [optB u, .int k] ∧ ∀ v, u = some v → totB v.1 v.2.1 v.2.2.1 v.2.2.2 ≤ 1060000 := by
  unfold abA
  split
  · rename_i h
    split
    · refine ⟨some (o, m, sumW m w.length w w', sumC m w.length c c'), 0, rfl, fun v hv => ?_⟩
      cases hv
      have n8 := (isBr_get h.1).1.n8.2
      have h3 : tot3 (sumW m w.length w w') ≤ 4096 := btot3 (by omega)
      have h2 : tot List.length (sumC m w.length c c') ≤ 256 := btot2 (by omega)
      show (o.length + tot3 (sumW m w.length w w')) + tot List.length (sumC m w.length c c') ≤ _
      omega
    · exact ⟨none, 2, rfl, fun _ h => by cases h⟩
  · exact ⟨none, 1, rfl, fun _ h => by cases h⟩
end Go.Proofs.Ytjfiahmadnijhaa
