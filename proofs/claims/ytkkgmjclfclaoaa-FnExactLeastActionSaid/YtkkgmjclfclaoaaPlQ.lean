/-
  The direct sum of two actions: rows copied into rows of zeroes. Of no program.
-/
import Derived.Test.YtkkgmjclfclaoaaPlF
import Derived.Test.YtkkgmjclfclaoaaLib2
set_option linter.unusedSimpArgs false
set_option linter.unusedVariables false
namespace Go.Pl
open Go.Aw

def smM (p q : Nat) (A B : List (List Int)) : List (List Int) := A.map (fun r => r ++ List.replicate q 0) ++ B.map (fun r => List.replicate p 0 ++ r)
def smL (a b : List (List (List Int))) (i : Nat) : List (List (List Int)) := (List.range i).map fun k => smM (a.getD 0 []).length (b.getD 0 []).length (a.getD k []) (b.getD k [])
theorem smL_length {a b : List (List (List Int))} {i : Nat} : (smL a b i).length = i := by simp [smL]
theorem smL_succ {a b : List (List (List Int))} {i : Nat} : smL a b (i + 1) = smL a b i ++ [smM (a.getD 0 []).length (b.getD 0 []).length (a.getD i []) (b.getD i [])] := by simp [smL, List.range_succ]
noncomputable def smA (t a b : List (List (List Int))) : AV := if isAct t a = true ∧ isAct t b = true then (if (a.getD 0 []).length + (b.getD 0 []).length ≤ 16 then .tup [.agg [.l3 (smL a b a.length)], .int 0] else .tup [.agg [.nil], .int 3]) else .tup [.agg [.nil], .int 1]

def smP (q : Nat) (A : List (List Int)) (c x : Nat) : List (List Int) := (A.take x).map (fun r => r ++ List.replicate q 0) ++ List.replicate (c - x) (List.replicate c 0)
def smQ (p q : Nat) (A B : List (List Int)) (c y : Nat) : List (List Int) := A.map (fun r => r ++ List.replicate q 0) ++ (B.take y).map (fun r => List.replicate p 0 ++ r) ++ List.replicate (c - p - y) (List.replicate c 0)
theorem set_mid {α : Type} {d z v : α} {L : List α} {n k : Nat} (h : L.length = k) (hk : 0 < n) : (L ++ List.replicate n z).getD k d = z ∧ (L ++ List.replicate n z).set k v = L ++ [v] ++ List.replicate (n - 1) z := by
  obtain ⟨m, rfl⟩ : ∃ m, n = m + 1 := ⟨n - 1, by omega⟩
  subst h
  constructor
  · simp [List.getD, List.getElem?_append_right]
  · rw [List.set_append_right _ _ (Nat.le_refl _), Nat.sub_self, List.replicate_succ, List.set_cons_zero]
    simp
theorem cp_low {p q : Nat} {r : List Int} (hr : r.length = p) : cpL (List.replicate (p + q) 0) r 0 (p + q) = r ++ List.replicate q 0 := by
  unfold cpL
  rw [List.take_of_length_le (l := r) (by omega), List.drop_replicate]
  simp only [List.take_zero, List.nil_append]
  congr 2
  omega
theorem cp_high {p q : Nat} {r : List Int} (hr : r.length = q) : cpL (List.replicate (p + q) 0) r p (p + q) = List.replicate p 0 ++ r := by
  unfold cpL
  rw [List.take_of_length_le (l := r) (by omega), List.take_replicate, List.drop_replicate]
  have h1 : min p (p + q) = p := by omega
  have h2 : p + q - (p + min (p + q - p) r.length) = 0 := by omega
  rw [h1, h2]
  simp
theorem smP_length {q : Nat} {A : List (List Int)} {c x : Nat} (h1 : x ≤ A.length) (h2 : A.length ≤ c) : (smP q A c x).length = c := by
  simp [smP]; omega
theorem smP_get {p q : Nat} {A : List (List Int)} {x : Nat} (h1 : A.length = p) (hx : x < p) : (smP q A (p + q) x).getD x [] = List.replicate (p + q) 0 := (set_mid (v := []) (by simp; omega) (by omega)).1
theorem smP_step {p q : Nat} {A : List (List Int)} {x : Nat} (h1 : A.length = p) (hx : x < p) (hr : (A.getD x []).length = p) :
    (smP q A (p + q) x).set x (cpL (List.replicate (p + q) 0) (A.getD x []) 0 (p + q)) = smP q A (p + q) (x + 1) := by
  rw [cp_low hr]
  unfold smP
  rw [(set_mid (d := []) (by simp; omega) (by omega)).2, take_succ_map (d := []) (by omega)]
  congr 2
theorem smP_end {p q : Nat} {A B : List (List Int)} (h1 : A.length = p) : smP q A (p + q) p = smQ p q A B (p + q) 0 := by
  unfold smP smQ
  rw [List.take_of_length_le (by omega)]
  simp
theorem smQ_length {p q : Nat} {A B : List (List Int)} {y : Nat} (h1 : A.length = p) (h2 : B.length = q) (hy : y ≤ q) : (smQ p q A B (p + q) y).length = p + q := by
  simp [smQ]; omega
theorem smQ_get {p q : Nat} {A B : List (List Int)} {y : Nat} (h1 : A.length = p) (h2 : B.length = q) (hy : y < q) : (smQ p q A B (p + q) y).getD (p + y) [] = List.replicate (p + q) 0 := (set_mid (v := []) (by simp; omega) (by omega)).1
theorem smQ_step {p q : Nat} {A B : List (List Int)} {y : Nat} (h1 : A.length = p) (h2 : B.length = q) (hy : y < q) (hr : (B.getD y []).length = q) :
    (smQ p q A B (p + q) y).set (p + y) (cpL (List.replicate (p + q) 0) (B.getD y []) p (p + q)) = smQ p q A B (p + q) (y + 1) := by
  rw [cp_high hr]
  unfold smQ
  rw [(set_mid (d := []) (by simp; omega) (by omega)).2, take_succ_map (d := []) (by omega), List.append_assoc (A.map _)]
  congr 2
theorem smQ_end {p q : Nat} {A B : List (List Int)} (h2 : B.length = q) : smQ p q A B (p + q) q = smM p q A B := by
  unfold smQ smM
  rw [List.take_of_length_le (by omega)]
  simp
end Go.Pl
