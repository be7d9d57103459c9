import Derived.Test.YtkkgmjclfclaoaaPlF
import Derived.Test.YtkkgmjclfclaoaaLib2
set_option linter.unusedSimpArgs false
set_option linter.unusedVariables false
namespace Go.Pl
open Go.Aw
def smM (p q : Nat) (A B : List (List Int)) : List (List Int) := A.map (fun r => r ++ List.replicate q 0) ++ B.map (fun r => List.replicate p 0 ++ r)
def smL (a b : List (List (List Int))) (i : Nat) : List (List (List Int)) := (List.range i).map fun k => smM (a.getD 0 []).length (b.getD 0 []).length (a.getD k []) (b.getD k [])
noncomputable def smA (t a b : List (List (List Int))) : AV := if isAct t a = true ∧ isAct t b = true then (if (a.getD 0 []).length + (b.getD 0 []).length ≤ 16 then .tup [.agg [.l3 (smL a b a.length)], .int 0] else .tup [.agg [.nil], .int 3]) else .tup [.agg [.nil], .int 1]
def smP (q : Nat) (A : List (List Int)) (c x : Nat) : List (List Int) := (A.take x).map (fun r => r ++ List.replicate q 0) ++ List.replicate (c - x) (List.replicate c 0)
def smQ (p q : Nat) (A B : List (List Int)) (c y : Nat) : List (List Int) := A.map (fun r => r ++ List.replicate q 0) ++ (B.take y).map (fun r => List.replicate p 0 ++ r) ++ List.replicate (c - p - y) (List.replicate c 0)
end Go.Pl
