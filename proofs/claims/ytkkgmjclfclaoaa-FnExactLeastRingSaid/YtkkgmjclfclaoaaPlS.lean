import Derived.Test.YtkkgmjclfclaoaaPlR
set_option linter.unusedSimpArgs false
set_option linter.unusedVariables false
namespace Go.Pl
open Go.Aw
def ownF (P : List Int) (v : Int) : Nat → List Int
  | 0 => []
  | y + 1 => if P.getD y 0 = v then ownF P v y ++ [(y : Int)] else ownF P v y
theorem QOk.mono {m m' : Nat} {L : List Int} (h : QOk m L) (hm : m ≤ m') : QOk m' L := fun i hi => by have := h i hi; omega
def ownL (a : List (List (List Int))) (x : Nat) : List Int := ownF (partsL a) ((partsL a).getD x 0) (a.getD 0 []).length
def subF (M : List (List Int)) (L : List Int) (i k : Nat) : Int := e2 M (L.getD i 0).toNat (L.getD k 0).toNat
def subM (M : List (List Int)) (L : List Int) : List (List Int) := matF L.length L.length (subF M L)
def paL (a : List (List (List Int))) (L : List Int) (i : Nat) : List (List (List Int)) := (List.range i).map fun k => subM (a.getD k []) L
def fillF (f : Nat → Nat → Int) (j k x y : Nat) : Int := if x < j ∨ (x = j ∧ y < k) then f x y else 0
noncomputable def paA (t a : List (List (List Int))) (x : Int) : AV := if isAct t a = true then (if ptB a x = true then .tup [.agg [.l3 (paL a (ownL a x.toNat) a.length)], .int 0] else .tup [.agg [.nil], .int 2]) else .tup [.agg [.nil], .int 1]
end Go.Pl
