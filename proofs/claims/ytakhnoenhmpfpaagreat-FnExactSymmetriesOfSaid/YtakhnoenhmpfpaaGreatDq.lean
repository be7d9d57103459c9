import Derived.Test.YtakhnoenhmpfpaaGreatDx1
set_option linter.unusedSimpArgs false
set_option linter.unusedVariables false
namespace Go.Proofs.YtakhnoenhmpfpaaGreat
open Go Go.Aw Go.Pl
attribute [go_sem] Tryz.underlying56
noncomputable def icA (s : List (List Int)) (t : List Int) (a : Int) : Bool × Int := if isData s t then (if inC t a then (decide (sumTo (numV s t.length (cL s t.length) a.toNat ((cL s t.length).getD a.toNat 0).toNat) t.length = 1) && decide (e2 s 0 a.toNat * e2 s 0 a.toNat % 55441 = 1), 0) else (false, 2)) else (false, 1)
end Go.Proofs.YtakhnoenhmpfpaaGreat
