import Derived.Test.YtikbecmheibggaaGreatPl1
set_option linter.unusedSimpArgs false
set_option linter.unusedVariables false
namespace Go.Pl
open Go.Aw
noncomputable def isAct (t a : List (List (List Int))) : Bool := bd (isRing t = true ∧ Fam t a ∧ actF t a = none)
def dg (m : List (List Int)) (x : Nat) : Int := e2 m x x
def trM (m : List (List Int)) : Int := sumTo (dg m) m.length
def trL (a : List (List (List Int))) : List Int := a.map trM
noncomputable def trA (t a : List (List (List Int))) : AV := if isAct t a = true then .tup [.l1 (trL a), .int 0] else .tup [.nil, .int 1]
def ptB (a : List (List (List Int))) (x : Int) : Bool := decide (0 ≤ x) && decide (x ≤ ((a.getD 0 []).length : Int) - 1)
def homL (a : List (List (List Int))) (x y : Int) : List Int := a.map fun m => e2 m y.toNat x.toNat
noncomputable def homA (t a : List (List (List Int))) (x y : Int) : AV := if isAct t a = true then (if ptB a x = true ∧ ptB a y = true then .tup [.l1 (homL a x y), .int 0] else .tup [.nil, .int 2]) else .tup [.nil, .int 1]
def inV (x : Int) : Prop := 0 ≤ x ∧ x ≤ 1000000
def vecB (v : List Int) : Bool := !(v.any fun n => !(decide (0 ≤ n) && decide (n ≤ 1000000)))
def lblB (t : List (List (List Int))) (i : Int) : Bool := decide (0 ≤ i) && decide (i ≤ (t.length : Int) - 1)
def dot (v r : List Int) : Int := sumTo (dotG r v) r.length
def actL (a : List (List (List Int))) (i : Int) (v : List Int) : List Int := (a.getD i.toNat []).map (dot v)
noncomputable def actA' (t a : List (List (List Int))) (i : Int) (v : List Int) : AV := if isAct t a = true then (if lblB t i = true ∧ v.length = (a.getD 0 []).length ∧ vecB v = true then .tup [.l1 (actL a i v), .int 0] else .tup [.nil, .int 2]) else .tup [.nil, .int 1]
end Go.Pl
