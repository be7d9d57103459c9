import Derived.Test.YtkkgmjclfclaoaaDr
set_option linter.unusedSimpArgs false
set_option linter.unusedVariables false
namespace Go.Proofs.Ytkkgmjclfclaoaa
open Go Go.Aw Go.Pl

theorem tot_le {α : Type} {n : α → Nat} {B : Nat} : ∀ (xs : List α), (∀ x ∈ xs, n x ≤ B) → tot n xs ≤ xs.length * B
  | [], _ => by simp [tot]
  | x :: xs, h => by
    have h1 := h x (by simp)
    have h2 := tot_le xs (fun y hy => h y (by simp [hy]))
    simp only [tot, List.length_cons, Nat.add_mul]
    omega
theorem tot2_matF {n : Nat} {f : Nat → Nat → Int} (h : n ≤ 16) : tot List.length (matF n n f) ≤ 256 := by
  have h2 := tot_le (n := List.length) (B := 16) (matF n n f) (fun x hx => by
    simp only [matF, List.mem_map] at hx
    obtain ⟨i, -, rfl⟩ := hx
    rw [rowF_length]; exact h)
  rw [matF_length] at h2
  have := Nat.mul_le_mul_right 16 h
  omega
theorem tot3_cubF {n : Nat} {f : Nat → Nat → Nat → Int} (h : n ≤ 16) : tot3 (cubF n f) ≤ 4096 := by
  have h2 := tot_le (n := tot List.length) (B := 256) (cubF n f) (fun x hx => by
    simp only [cubF, List.mem_map] at hx
    obtain ⟨i, -, rfl⟩ := hx
    exact tot2_matF h)
  rw [cubF_length] at h2
  have := Nat.mul_le_mul_right 256 h
  unfold tot3
  omega

noncomputable def rgA (s : List (List Int)) (t : List Int) : AV := if isData s t then .tup [.agg [.l3 (numD s t.length (cL s t.length))], .int 0] else .tup [.agg [.nil], .int 1]
theorem rgA_shape (s : List (List Int)) (t : List Int) : ∃ (u : Option (List (List (List Int)))) (c : Int), rgA s t = .tup [.agg [optT u], .int c] ∧ ∀ v, u = some v → tot3 v ≤ 1048576 := by
  unfold rgA
  cases h : isData s t with
  | false => exact ⟨none, 1, rfl, fun _ h => by cases h⟩
  | true =>
    have h16 := (isData_some h).1.2.1
    exact ⟨some (numD s t.length (cL s t.length)), 0, rfl, fun v hv => by cases hv; have h3 := tot3_cubF (n := t.length) (f := numV s t.length (cL s t.length)) h16; rw [numD_eq]; omega⟩
def cjM (s : List (List Int)) (c : List Int) (n : Nat) : List (List Int) := (List.range n).map fun k => s.getD (c.getD k 0).toNat []
theorem cjM_length {s : List (List Int)} {c : List Int} {n : Nat} : (cjM s c n).length = n := by simp [cjM]
theorem cjM_succ {s : List (List Int)} {c : List Int} {n : Nat} : cjM s c (n + 1) = cjM s c n ++ [s.getD (c.getD n 0).toNat []] := by simp [cjM, List.range_succ]
noncomputable def cdA (s : List (List Int)) (t : List Int) : AV := if isData s t then .tup [.agg [.l2 (cjM s (cL s t.length) t.length), .l1 (ivF t)], .int 0] else .tup [.agg [.nil, .nil], .int 1]
theorem cdA_shape (s : List (List Int)) (t : List Int) : ∃ (u : Option (List (List Int) × List Int)) (c : Int), cdA s t = .tup [optD u, .int c] ∧ ∀ v, u = some v → tot2 v.1 + v.2.length ≤ 1048576 := by
  unfold cdA
  cases h : isData s t with
  | false => exact ⟨none, 1, rfl, fun _ h => by cases h⟩
  | true =>
    obtain ⟨hs, hst, hw, c, hc, hT, hR⟩ := isData_some h
    obtain ⟨lc, hC⟩ := cj_in hc
    obtain ⟨rfl, -⟩ := cj_get hc
    have h16 := hs.2.1
    refine ⟨some (cjM s (cL s t.length) t.length, ivF t), 0, rfl, fun v hv => ?_⟩
    cases hv
    have h2 := tot_le (n := List.length) (B := 16) (cjM s (cL s t.length) t.length) (fun x hx => by
      simp only [cjM, List.mem_map, List.mem_range] at hx
      obtain ⟨k, hk, rfl⟩ := hx
      have := hC k hk
      rw [hs.2.2.1.row (show ((cL s t.length).getD k 0).toNat < t.length by omega)]
      exact h16)
    rw [cjM_length] at h2
    have := Nat.mul_le_mul_right 16 h16
    show tot List.length (cjM s (cL s t.length) t.length) + (ivF t).length ≤ _
    rw [ivF_length]
    omega

end Go.Proofs.Ytkkgmjclfclaoaa
