import Derived.Test.YtmjcbgpbhlheoaaPl2
set_option linter.unusedSimpArgs false
set_option linter.unusedVariables false
namespace Go.Pl
open Go.Aw
def pr (s : List (List Int)) (cs : List Int) (x : Int) (l : Nat) : Nat → Int
 | 0 => x
 | i + 1 => pr s cs x l i * e2 s (cs.getD i 0).toNat l % 55441
def LagP (s : List (List Int)) (t v : List Int) : Prop := v.length = t.length ∧ v.getD 0 0 = 1 ∧ (∀ i, i < t.length → (0 ≤ v.getD i 0 ∧ v.getD i 0 ≤ 1000) ∧ (v.getD i 0 ≠ 0 → t.getD i 0 = 1)) ∧ (∀ i, i < t.length → dotP (s.getD i []) v t.length = dotP (s.getD 0 []) v t.length * v.getD i 0 % 55441) ∧ dotP (s.getD 0 []) v t.length * dotP (s.getD 0 []) v t.length % 55441 = wholeD s t.length
def hI (s : List (List Int)) (t c : List Int) (a : Nat) (k : Int) (j l : Nat) : Int := numV s t.length c j l a * (e2 s 0 j * e2 s 0 l % 55441 * rs (t.getD j 0 * inv (t.getD l 0) % 55441) k % 55441) % 55441
theorem LagP.le {s : List (List Int)} {t v : List Int} (h : LagP s t v) : ∀ i, i < t.length → 0 ≤ v.getD i 0 ∧ v.getD i 0 ≤ 1000 := fun i hi => (h.2.2.1 i hi).1
end Go.Pl
namespace Go.Pl
open Go.Aw
theorem ext_getD {α : Type} {d : α} {xs ys : List α} (hl : xs.length = ys.length) (h : ∀ i, i < xs.length → xs.getD i d = ys.getD i d) : xs = ys := by
 apply List.ext_getElem hl
 intro i h1 h2
 have := h i h1
 simpa [List.getD, List.getElem?_eq_getElem h1, List.getElem?_eq_getElem h2] using this
def CommP (t : List (List (List Int))) : Prop := ∀ i, i < t.length → ∀ j, j < t.length → (t.getD i []).getD j [] = (t.getD j []).getD i []
def oppR (t : List (List (List Int))) (i j : Nat) : List (List Int) := (List.range j).map fun j => (t.getD j []).getD i []
def oppL (t : List (List (List Int))) (i : Nat) : List (List (List Int)) := (List.range i).map fun i => oppR t i t.length
theorem oppR_length {t : List (List (List Int))} {i j : Nat} : (oppR t i j).length = j := by simp [oppR]
theorem oppL_length {t : List (List (List Int))} {i : Nat} : (oppL t i).length = i := by simp [oppL]
theorem oppR_succ {t : List (List (List Int))} {i j : Nat} : oppR t i (j + 1) = oppR t i j ++ [(t.getD j []).getD i []] := by simp [oppR, List.range_succ]
theorem oppL_succ {t : List (List (List Int))} {i : Nat} : oppL t (i + 1) = oppL t i ++ [oppR t i t.length] := by simp [oppL, List.range_succ]
theorem oppL_get {t : List (List (List Int))} {i n : Nat} (h : i < n) : (oppL t n).getD i [] = oppR t i t.length := by simp [oppL, List.getD, h]
theorem oppR_get {t : List (List (List Int))} {i j n : Nat} (h : j < n) : (oppR t i n).getD j [] = (t.getD j []).getD i [] := by simp [oppR, List.getD, h]
theorem comm_iff {t : List (List (List Int))} (hc : Cube t) : CommP t ↔ t = oppL t t.length := by
 constructor
 ·intro h
  refine ext_getD (d := []) oppL_length.symm (fun i hi => ?_)
  have hm := hc.2.2 i hi
  refine ext_getD (d := []) (by rw [oppL_get hi, oppR_length]; exact hm.1) (fun j hj => ?_)
  rw [hm.1] at hj
  rw [oppL_get hi, oppR_get hj]
  exact h i hi j hj
 ·intro h i hi j hj
  have e : (t.getD i []).getD j [] = ((oppL t t.length).getD i []).getD j [] := by rw [← h]
  rw [e, oppL_get hi, oppR_get hj]
end Go.Pl
