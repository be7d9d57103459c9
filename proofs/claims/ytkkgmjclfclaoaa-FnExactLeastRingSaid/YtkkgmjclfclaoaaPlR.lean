import Derived.Test.YtkkgmjclfclaoaaPlQ
set_option linter.unusedSimpArgs false
set_option linter.unusedVariables false
namespace Go.Pl
open Go.Aw
def jn (a : List (List (List Int))) (x y : Nat) : Bool := a.any fun m => !decide (e2 m x y = 0)
def yS (a : List (List (List Int))) (u : Nat) (n : Int) (P : List Int) : Nat → List Int × List Int
  | 0 => (P, [])
  | y + 1 => if (yS a u n P y).1.getD y 0 < 0 ∧ jn a u y = true then ((yS a u n P y).1.set y n, (yS a u n P y).2 ++ [(y : Int)]) else yS a u n P y
def neg (P : List Int) : Nat := P.countP fun v => decide (v < 0)
theorem getD_set_ne {P : List Int} {y z : Nat} {n : Int} (h : y ≠ z) : (P.set y n).getD z 0 = P.getD z 0 := by
  simp [List.getD, List.getElem?_set_ne h]
theorem getD_set_eq {P : List Int} {y : Nat} {n : Int} (h : y < P.length) : (P.set y n).getD y 0 = n := by
  simp [List.getD, List.getElem?_set_self h]
structure POk (m : Nat) (n : Int) (P : List Int) : Prop where
  len : P.length = m
  bd : ∀ i, i < m → -1 ≤ P.getD i 0 ∧ P.getD i 0 ≤ n
def QOk (m : Nat) (L : List Int) : Prop := ∀ i, i < L.length → 0 ≤ L.getD i 0 ∧ L.getD i 0 < m
theorem POk.set {m : Nat} {n : Int} {P : List Int} (h : POk m n P) {y : Nat} (hn : -1 ≤ n) : POk m n (P.set y n) := by
  refine ⟨by rw [List.length_set]; exact h.len, fun i hi => ?_⟩
  by_cases e : y = i
  · subst e
    rw [getD_set_eq (by rw [h.len]; exact hi)]
    omega
  · rw [getD_set_ne e]; exact h.bd i hi
theorem QOk.app {m : Nat} {L N : List Int} (h : QOk m L) (h2 : QOk m N) : QOk m (L ++ N) := by
  intro i hi
  by_cases c : i < L.length
  · have e : (L ++ N).getD i 0 = L.getD i 0 := by simp [List.getD, List.getElem?_append_left c]
    rw [e]; exact h i c
  · have e : (L ++ N).getD i 0 = N.getD (i - L.length) 0 := by simp [List.getD, List.getElem?_append_right (show L.length ≤ i by omega)]
    rw [e]; exact h2 _ (by rw [List.length_append] at hi; omega)
theorem QOk.one {m y : Nat} (h : y < m) : QOk m [(y : Int)] := by
  intro i hi
  simp only [List.length_cons, List.length_nil] at hi
  obtain rfl : i = 0 := by omega
  simp only [List.getD_cons_zero]
  omega
theorem QOk.nil {m : Nat} : QOk m [] := fun i hi => by simp at hi
def bS (a : List (List (List Int))) (m : Nat) (n : Int) (s : List Int × List Int) : List Int × List Int := match s.2 with
  | [] => s
  | u :: L => ((yS a u.toNat n s.1 m).1, L ++ (yS a u.toNat n s.1 m).2)
def bI (a : List (List (List Int))) (m : Nat) (n : Int) (s : List Int × List Int) : Nat → List Int × List Int
  | 0 => s
  | k + 1 => bS a m n (bI a m n s k)
def mu (s : List Int × List Int) : Nat := s.2.length + neg s.1
structure BOk (m : Nat) (n : Int) (s : List Int × List Int) : Prop where
  p : POk m n s.1
  q : QOk m s.2
theorem QOk.tail {m : Nat} {u : Int} {L : List Int} (h : QOk m (u :: L)) : QOk m L := fun i hi => by
  have := h (i + 1) (by simpa using hi)
  simpa using this
def qF (a : List (List (List Int))) (m : Nat) (n : Int) (s : List Int × List Int) : Nat → List Int
  | 0 => s.2
  | k + 1 => qF a m n s k ++ (match (bI a m n s k).2 with
    | [] => []
    | u :: _ => (yS a u.toNat n (bI a m n s k).1 m).2)
def pS (a : List (List (List Int))) (m : Nat) : Nat → List Int × Int
  | 0 => (List.replicate m (-1), 0)
  | x + 1 => if 0 ≤ (pS a m x).1.getD x 0 then pS a m x else ((bI a m (pS a m x).2 ((pS a m x).1.set x (pS a m x).2, [(x : Int)]) (m + 1)).1, (pS a m x).2 + 1)
def partsL (a : List (List (List Int))) : List Int := (pS a (a.getD 0 []).length (a.getD 0 []).length).1
theorem POk.mono {m : Nat} {n n' : Int} {P : List Int} (h : POk m n P) (hn : n ≤ n') : POk m n' P := ⟨h.len, fun i hi => by have := h.bd i hi; omega⟩
noncomputable def partsA (t a : List (List (List Int))) : AV := if isAct t a = true then .tup [.l1 (partsL a), .int 0] else .tup [.nil, .int 1]
end Go.Pl
