import Derived.Test.YtfnokakbdehlgaaDoorDx1
import Derived.Test.YtfnokakbdehlgaaDoorDk
import Derived.Test.YtfnokakbdehlgaaDoorHd
set_option linter.unusedSimpArgs false
set_option linter.unusedVariables false
namespace Go.Proofs.YtfnokakbdehlgaaDoor
open Go Go.Aw Go.Pl
attribute [go_sem] Tryd.underlying26
noncomputable def icA (s : List (List Int)) (t : List Int) (a : Int) : Bool × Int := if isData s t then (if inC t a then (decide (sumTo (numV s t.length (cL s t.length) a.toNat ((cL s t.length).getD a.toNat 0).toNat) t.length = 1) && decide (e2 s 0 a.toNat * e2 s 0 a.toNat % 55441 = 1), 0) else (false, 2)) else (false, 1)
end Go.Proofs.YtfnokakbdehlgaaDoor
namespace Go.Proofs.YtfnokakbdehlgaaDoor
open Go Go.Aw Go.Pl
theorem l01Own_ok (xs : List Int) (hl : xs.length ≤ 1099511627776) : FreshCall Tryd.prog 135 [.l1 xs] (.l1 xs) := by
 refine FreshCall.intro (n := 6) (rs := [.tmp 2]) Tryd.call135 Tryd.func135 rfl rfl rfl (by simp only [List.length_cons, List.length_nil]; omega) (fun cx hcx => ats_of ?_); simp only [argSlots, Nat.zero_add, Nat.reduceAdd]
 refine gA ?_
 refine gC fun K hK => ?_
 (repeat refine aI (hb := ?_))
 refine hK _ ?_; clear hK K
 exact ats_ret (ownV (is := [0]) rfl ⟨rfl, trivial⟩ rfl (by simp))
noncomputable def dimA (s : List (List Int)) (t : List Int) : AV := if isData s t then .tup [.l1 (s.getD 0 []), .int 0] else .tup [.nil, .int 1]
noncomputable def conA (s : List (List Int)) (t : List Int) : AV := if isData s t then .tup [.l1 (cL s t.length), .int 0] else .tup [.nil, .int 1]
end Go.Proofs.YtfnokakbdehlgaaDoor
namespace Go.Proofs.YtfnokakbdehlgaaDoor
open Go Go.Aw Go.Pl
noncomputable def rgA (s : List (List Int)) (t : List Int) : AV := if isData s t then .tup [.agg [.l3 (numD s t.length (cL s t.length))], .int 0] else .tup [.agg [.nil], .int 1]
def cjM (s : List (List Int)) (c : List Int) (n : Nat) : List (List Int) := (List.range n).map fun k => s.getD (c.getD k 0).toNat []
noncomputable def cdA (s : List (List Int)) (t : List Int) : AV := if isData s t then .tup [.agg [.l2 (cjM s (cL s t.length) t.length), .l1 (ivF t)], .int 0] else .tup [.agg [.nil, .nil], .int 1]
end Go.Proofs.YtfnokakbdehlgaaDoor
