import Derived.Test.YtbddekioaigbhaaDx1
set_option linter.unusedSimpArgs false
set_option linter.unusedVariables false
namespace Go.Proofs.Ytbddekioaigbhaa
open Go Go.Aw Go.Pl
attribute [go_sem] Try.underlying32

theorem numD_length {s : List (List Int)} {n : Nat} {c : List Int} : (numD s n c).length = n := cubF_length ..
theorem numD_mat {s : List (List Int)} {n : Nat} {c : List Int} {i : Nat} (h : i < n) : ((numD s n c).getD i []).length = n := cubF_mat h
theorem numD_row {s : List (List Int)} {n : Nat} {c : List Int} {i j : Nat} (h : i < n) (hj : j < n) : ((numD s n c).getD i []).getD j [] = rowF n (numV s n c i j) := by rw [numD_eq, cubF_get h, matF_get hj]
theorem sumV_le {s : List (List Int)} {n : Nat} {c : List Int} {i j k : Nat} (hk : k ≤ 16) : 0 ≤ sumTo (numV s n c i j) k ∧ sumTo (numV s n c i j) k ≤ 1000000 := by
  have h := sumTo_le (f := numV s n c i j) (B := 55440) (n := k) (fun x _ => numV_InP s n c i j x)
  omega

noncomputable def icA (s : List (List Int)) (t : List Int) (a : Int) : Bool × Int := if isData s t then (if inC t a then (decide (sumTo (numV s t.length (cL s t.length) a.toNat ((cL s t.length).getD a.toNat 0).toNat) t.length = 1) && decide (e2 s 0 a.toNat * e2 s 0 a.toNat % 55441 = 1), 0) else (false, 2)) else (false, 1)
end Go.Proofs.Ytbddekioaigbhaa
