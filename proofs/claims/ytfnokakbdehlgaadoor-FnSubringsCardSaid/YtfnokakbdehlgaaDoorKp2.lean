import Derived.Test.YtfnokakbdehlgaaDoorPl3
import Derived.Test.YtfnokakbdehlgaaDoorPl5
import Derived.Test.YtfnokakbdehlgaaDoorKp1
import Derived.Test.YtfnokakbdehlgaaDoorPl2
set_option linter.unusedSimpArgs false
set_option linter.unusedVariables false
namespace Go.Pl
open Go.Aw
def cubG (n : Nat) (f : Nat → Nat → Nat → Int) : List (List (List Int)) := (List.range n).map fun u => matF n n (f u)
def imF (t : List (List (List Int))) (p : List Int) (u v w : Nat) : Int := e3 t (pos p u) (pos p v) (pos p w)
def imC (t : List (List (List Int))) (n : Nat) (p : List Int) : List (List (List Int)) := cubG n (imF t p)
def befor (a b c i j k : Nat) : Prop := a < i ∨ (a = i ∧ (b < j ∨ (b = j ∧ c < k)))
instance (a b c i j k : Nat) : Decidable (befor a b c i j k) := by unfold befor; infer_instance
def wC (t : List (List (List Int))) (n : Nat) (p : List Int) (g : Nat → Nat → Nat → Int) (i j k : Nat) : List (List (List Int)) :=
 cubG n (fun u v w => if befor (pos p u) (pos p v) (pos p w) i j k then imF t p u v w else g u v w)
def visR (t : List (List (List Int))) (n : Nat) (p : List Int) (s : Option (List (List (List Int)))) : Option (List (List (List Int))) :=
 if lt3 (imC t n p) (s.getD t) = true then some (imC t n p) else s
def ordersL (n : Nat) : List (List Int) := permsF n (n - 1) [0]
def leastR (t : List (List (List Int))) : List (List (List Int)) := ((ordersL t.length).map (imC t t.length)).foldl (better lt3) t
noncomputable def lrA (t : List (List (List Int))) : AV := if isRing t = true then (if t.length ≤ 7 then .tup [.agg [.l3 (leastR t)], .int 0] else .tup [.agg [.nil], .int 3]) else .tup [.agg [.nil], .int 1]
def visO (p : List Int) (s : Option (List (List Int))) : Option (List (List Int)) := some (s.getD [] ++ [p])
end Go.Pl
namespace Go.Pl
open Go.Aw
def VecX (n : Nat) (X : Int) (x : List Int) : Prop := x.length = n ∧ ∀ i, i < n → 0 ≤ x.getD i 0 ∧ x.getD i 0 ≤ X
section
variable {t : List (List (List Int))} {x y : List Int} {X Y : Int}
def prw (t : List (List (List Int))) (x y : List Int) (i j k : Nat) : List Int := rowF t.length (fun c => if c < k then pPart t x y i (j + 1) c else pPart t x y i j c)
end
noncomputable def bigV (y : List Int) : Bool := bd (∃ c, c < y.length ∧ 1000000000 < y.getD c 0)
noncomputable def pwv (t : Cu) (i : Nat) : Nat → Option (List Int)
 | 0 => some (oneV t.length 0)
 | k + 1 => match pwv t i k with
  | none => none
  | some x => if bigV (prodL t x (oneV t.length i)) then none else some (prodL t x (oneV t.length i))
noncomputable def mvR (t : Cu) (x y : List Int) : Option (List Int) × Int :=
 if isRing t then (if bd (VecX t.length 1000000 x ∧ VecX t.length 1000000 y) then (some (prodL t x y), 0) else (none, 2)) else (none, 1)
noncomputable def pwR (t : Cu) (i k : Int) : Option (List Int) × Int :=
 if isRing t then (if lblB t i && (decide (0 ≤ k) && decide (k ≤ 40)) then (match pwv t i.toNat k.toNat with | some x => (some x, 0) | none => (none, 3)) else (none, 2)) else (none, 1)
def opF (t : Cu) (i j x y : Nat) : List Int := if x < i ∨ (x = i ∧ y < j) then (t.getD y []).getD x [] else (t.getD x []).getD y []
def opM (t : Cu) (i j : Nat) : Cu := (List.range t.length).map fun x => (List.range t.length).map fun y => opF t i j x y
noncomputable def opR (t : Cu) : Option Cu × Int := if isRing t then (some (oppL t t.length), 0) else (none, 1)
noncomputable def flR (t : Cu) : Option (List Int) × Int := if bd (Cube t) then (match faultF t with | some u => (some u, 0) | none => (none, 4)) else (none, 1)
end Go.Pl
namespace Go.Pl
open Go.Aw
section
variable {t : Cu}
theorem at0 (h : RingP t) {i j : Nat} (hi : i < t.length) (hj : j < t.length) : e3 t i j 0 = if (j : Int) = dual t i then 1 else 0 := by
 have d := h.dual i hi
 have d2 := h.dual j hj
 have h0 := h.cube.1
 have a : e3 t i j 0 = e3 t 0 (dual t j).toNat i := h.turn2 i hi j hj 0 (by omega)
 rw [a, h.left _ (by omega) i hi]
 unfold dl
 by_cases e : (j : Int) = dual t i
 ·rw [if_pos e]
  have : dual t j = i := by
   have := h.invo i hi
   rw [← e] at this
   simpa using this
  rw [if_pos (by rw [this]; simp)]
 ·rw [if_neg e, if_neg ?_]
  intro h2
  apply e
  have h3 := h.invo j hj
  have h4 : (dual t j).toNat = i := by omega
  rw [h4] at h3
  exact h3.symm
end
end Go.Pl
