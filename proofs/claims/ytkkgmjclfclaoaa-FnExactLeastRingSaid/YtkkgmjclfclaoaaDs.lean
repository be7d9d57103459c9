import Derived.Test.YtkkgmjclfclaoaaDr
set_option linter.unusedSimpArgs false
set_option linter.unusedVariables false
namespace Go.Proofs.Ytkkgmjclfclaoaa
open Go Go.Aw Go.Pl
theorem tot_le {α : Type} {n : α → Nat} {B : Nat} : ∀ (xs : List α), (∀ x ∈ xs, n x ≤ B) → tot n xs ≤ xs.length * B
  | [], _ => by simp [tot]
  | x :: xs, h => by
    have h1 := h x (by simp)
    have h2 := tot_le xs (fun y hy => h y (by simp [hy]))
    simp only [tot, List.length_cons, Nat.add_mul]
    omega
noncomputable def rgA (s : List (List Int)) (t : List Int) : AV := if isData s t then .tup [.agg [.l3 (numD s t.length (cL s t.length))], .int 0] else .tup [.agg [.nil], .int 1]
def cjM (s : List (List Int)) (c : List Int) (n : Nat) : List (List Int) := (List.range n).map fun k => s.getD (c.getD k 0).toNat []
noncomputable def cdA (s : List (List Int)) (t : List Int) : AV := if isData s t then .tup [.agg [.l2 (cjM s (cL s t.length) t.length), .l1 (ivF t)], .int 0] else .tup [.agg [.nil, .nil], .int 1]
end Go.Proofs.Ytkkgmjclfclaoaa
