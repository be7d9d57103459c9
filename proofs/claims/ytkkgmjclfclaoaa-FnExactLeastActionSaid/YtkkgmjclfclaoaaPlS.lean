/-
  The part of a point: its points and the matrices between them. Of no program.
-/
import Derived.Test.YtkkgmjclfclaoaaPlR
set_option linter.unusedSimpArgs false
set_option linter.unusedVariables false
namespace Go.Pl
open Go.Aw

/-- The places below 'y' with the number 'v'. -/
def ownF (P : List Int) (v : Int) : Nat → List Int
  | 0 => []
  | y + 1 => if P.getD y 0 = v then ownF P v y ++ [(y : Int)] else ownF P v y
theorem ownF_yes {P : List Int} {v : Int} {y : Nat} (h : P.getD y 0 = v) : ownF P v (y + 1) = ownF P v y ++ [(y : Int)] := by rw [ownF, if_pos h]
theorem ownF_no {P : List Int} {v : Int} {y : Nat} (h : ¬ P.getD y 0 = v) : ownF P v (y + 1) = ownF P v y := by rw [ownF, if_neg h]
theorem QOk.mono {m m' : Nat} {L : List Int} (h : QOk m L) (hm : m ≤ m') : QOk m' L := fun i hi => by have := h i hi; omega
theorem ownF_ok {P : List Int} {v : Int} : ∀ y, QOk y (ownF P v y) ∧ (ownF P v y).length ≤ y
  | 0 => ⟨QOk.nil, Nat.le_refl _⟩
  | y + 1 => by
    obtain ⟨h1, h2⟩ := ownF_ok (P := P) (v := v) y
    by_cases c : P.getD y 0 = v
    · rw [ownF_yes c]
      exact ⟨(h1.mono (by omega)).app (QOk.one (by omega)), by rw [List.length_append, List.length_cons, List.length_nil]; omega⟩
    · rw [ownF_no c]; exact ⟨h1.mono (by omega), by omega⟩
def ownL (a : List (List (List Int))) (x : Nat) : List Int := ownF (partsL a) ((partsL a).getD x 0) (a.getD 0 []).length

def subF (M : List (List Int)) (L : List Int) (i k : Nat) : Int := e2 M (L.getD i 0).toNat (L.getD k 0).toNat
def subM (M : List (List Int)) (L : List Int) : List (List Int) := matF L.length L.length (subF M L)
def paL (a : List (List (List Int))) (L : List Int) (i : Nat) : List (List (List Int)) := (List.range i).map fun k => subM (a.getD k []) L
theorem paL_length {a : List (List (List Int))} {L : List Int} {i : Nat} : (paL a L i).length = i := by simp [paL]
theorem paL_succ {a : List (List (List Int))} {L : List Int} {i : Nat} : paL a L (i + 1) = paL a L i ++ [subM (a.getD i []) L] := by simp [paL, List.range_succ]
theorem matF_succ {j n : Nat} {f : Nat → Nat → Int} : matF (j + 1) n f = matF j n f ++ [rowF n (f j)] := by simp [matF, List.range_succ]
theorem rowF_succ {k : Nat} {f : Nat → Int} : rowF (k + 1) f = rowF k f ++ [f k] := by simp [rowF, List.range_succ]

/-- A square that is filled row by row. -/
def fillF (f : Nat → Nat → Int) (j k x y : Nat) : Int := if x < j ∨ (x = j ∧ y < k) then f x y else 0
theorem qfill_zero {n : Nat} {f : Nat → Nat → Int} : List.replicate n (List.replicate n (0 : Int)) = matF n n (fillF f 0 0) := by
  rw [zeros_matF]
  exact matF_congr fun i _ j _ => by unfold fillF; rw [if_neg (by omega)]
theorem qfill_set {n : Nat} {f : Nat → Nat → Int} {j k : Nat} (hj : j < n) : (matF n n (fillF f j k)).set j (((matF n n (fillF f j k)).getD j []).set k (f j k)) = matF n n (fillF f j (k + 1)) := by
  rw [matF_set hj]
  refine matF_congr fun x _ y _ => ?_
  unfold fillF
  by_cases c : x = j ∧ y = k
  · rw [if_pos c, if_pos (by omega), c.1, c.2]
  · rw [if_neg c]
    by_cases c2 : x < j ∨ (x = j ∧ y < k)
    · rw [if_pos c2, if_pos (by omega)]
    · rw [if_neg c2, if_neg (by omega)]
theorem qfill_row {n : Nat} {f : Nat → Nat → Int} {j : Nat} : matF n n (fillF f j n) = matF n n (fillF f (j + 1) 0) :=
  matF_congr fun x _ y _ => by
    unfold fillF
    by_cases c : x < j ∨ (x = j ∧ y < n)
    · rw [if_pos c, if_pos (by omega)]
    · rw [if_neg c, if_neg (by omega)]
theorem qfill_end {n : Nat} {f : Nat → Nat → Int} : matF n n (fillF f n 0) = matF n n f :=
  matF_congr fun x _ y _ => by unfold fillF; rw [if_pos (by omega)]

noncomputable def paA (t a : List (List (List Int))) (x : Int) : AV := if isAct t a = true then (if ptB a x = true then .tup [.agg [.l3 (paL a (ownL a x.toNat) a.length)], .int 0] else .tup [.agg [.nil], .int 2]) else .tup [.agg [.nil], .int 1]
end Go.Pl
