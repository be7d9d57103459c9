import Derived.Test.YtlngnhbochmcoaaCl
import Derived.Test.YtlngnhbochmcoaaCz2
set_option linter.unusedSimpArgs false
set_option linter.unusedVariables false
namespace Go.Proofs.Ytlngnhbochmcoaa
open Go Go.Aw Go.Pl
theorem Xz_ (t : List (List (List Int))) (hC : Cube t) (Vs : List (List Int)) (lVs : Vs.length = t.length) (hVs : ∀ i, i < t.length → (Vs.getD i []).length ≤ 55441 ∧ ∀ b, b < (Vs.getD i []).length → InP ((Vs.getD i []).getD b 0)) :
  ∀ (m : Nat) (x : List Int) (L0 : List (List Int)), x.length + m = t.length → (∀ i, i < x.length → InP (x.getD i 0)) → L0.length + (grL t Vs m x).length ≤ 1000000 → GrC Try.prog 19 t Vs x (.r2 L0) (L0 ++ grL t Vs m x)
 | 0, x, L0, hm, hp, hb => ac1 t hC Vs x (by omega) L0 (by omega)
 | m + 1, x, L0, hm, hp, hb => ac2 t hC Vs lVs hVs x (by omega) hp L0 m (fun y L ly py hb2 => Xz_ t hC Vs lVs hVs m y L (by omega) py hb2) hb
set_option maxRecDepth 100000 in
set_option maxHeartbeats 8000000 in
theorem QS_ (t : List (List (List Int))) (hR : RingP t) : PureCall Try.prog 11 [.agg [.l3 t]] (.l2 (grL t (V3_ t) t.length [])) := by
 have hC := hR.cube
 have n1 := hC.1
 have n16 := hC.2.1
 have lVs : (V3_ t).length = t.length := by unfold V3_; rw [List.length_map, List.length_range]
 have lG := ab4 hR
 have lI := ab1 hR (k := t.length - 1) (by omega)
 obtain ⟨m, em⟩ : ∃ m, t.length = m + 1 := ⟨t.length - 1, by omega⟩
 have hVs : ∀ i, i < t.length → ((V3_ t).getD i []).length ≤ 55441 ∧ ∀ b, b < ((V3_ t).getD i []).length → InP (((V3_ t).getD i []).getD b 0) := fun i hi => by
  rw [V4_ hi]; unfold rfV
  refine ⟨YE_ _ _, fun b hb => ?_⟩
  have := rtL_mem.1 (gdm (d := 0) hb)
  exact ⟨this.1, by omega⟩
 have hG := ac3 t hC (V3_ t) lVs hVs [] (by show 0 < t.length; omega) (fun i hi => absurd hi (Nat.not_lt_zero i)) m (fun y L ly py hb2 => Xz_ t hC (V3_ t) lVs hVs m y L (by rw [ly, em]; show 0 + 1 + m = m + 1; omega) py hb2) (by rw [← em]; show 0 + _ ≤ _; omega)
 rw [← em, List.nil_append] at hG
 unfold GrC at hG
 have hV : ∀ i, i < t.length → FreshCall Try.prog 18 [.l2 (t.getD i [])] (.l1 (rfV t i)) := fun i hi => Ub_ t.length n1 n16 (t.getD i []) (Tg_ hC hi)
 have lV : ∀ i, (rfV t i).length ≤ 55441 := fun i => YE_ _ _
 have eVs : (List.range t.length).map (rfV t) = V3_ t := rfl
 generalize grL t (V3_ t) t.length [] = G at *
 refine gPC 27 [.tmp 2] Try.call11 Try.func11 fun cx hcx => gE ?_
 refine gB ?_
 refine gB ?_
 (repeat refine xa_ ?_); refine AT.ghost (z1_ 1 rfl) ?_; simp only [find, x2_, xp_, xA_, qOf, rmT, xt_, x4_, x8_, List.map_cons, List.map_nil, List.filter_cons, List.filter_nil, List.contains_cons, List.contains_nil, List.isEmpty_nil, List.isEmpty_cons, Bool.or_false, Bool.or_true, Bool.false_and, Bool.true_and, Bool.and_false, Bool.and_true, Bool.not_true, Bool.not_false, Bool.false_eq_true, if_true, if_false, seval]
 refine gB ?_
 (repeat refine xa_ ?_); refine gLp (fun i : Nat => ⟨[(1, .bptr 0 0), (3, .ref 1 []), (4, .int i)], [(0, .bx [.l3 t]), (1, .r2 ((List.range i).map (rfV t)))]⟩) t.length fun i hi => ?_
 have lv : ((List.range i).map (rfV t)).length = i := by rw [List.length_map, List.length_range]
 refine gB ?_
 refine gI (fun h2 => ?_) fun h2 => ?_
 ·have hi2 : i < t.length := by omega
  have hVi := hV i hi2
  have lVi := lV i
  have sv : (List.range (i + 1)).map (rfV t) = (List.range i).map (rfV t) ++ [rfV t i] := by rw [List.range_succ, List.map_append]; rfl
  generalize rfV t i = V at *
  refine xb_ ?_
  refine gO ?_
  refine gC fun K hK => ?_
  refine gU ?_
  first | refine x3_ rfl (hVi) ?_ | refine xe_ (xP_ rfl (hVi)) ?_
  refine gW ?_
  refine hK _ ?_; clear hK K
  refine gB ?_
  refine ⟨i + 1, by omega, by omega, .inr ⟨[2], gK0, aJ8 ?_⟩⟩; rw [sv]
 ·obtain rfl : i = t.length := by omega
  rw [eVs]
  refine xf_ (ye_ ?_)
  (repeat refine xa_ ?_); refine AT.ghost (zl_ [1]) ?_; simp only [W4_, W3_, Y2_, Ua_, yR_, Option.getD_some, Option.getD_none, find, xp_, xA_, qOf, rmT, xt_, x4_, List.map_cons, List.map_nil, List.filter_cons, List.filter_nil, List.contains_cons, List.contains_nil, Bool.or_false, Bool.or_true, Bool.false_and, Bool.not_true, Bool.not_false, Bool.false_eq_true, if_true, if_false, seval]
  (repeat refine xa_ ?_); refine AT.ghost (st' := ⟨[(1, .bptr 4 0), (3, .l2 (V3_ t))], [(4, .bx [.l3 t])]⟩) (xS_ [] [(0, 4)]) ?_
  refine gC fun K hK => ?_
  refine QD_ [5] (hG) (by simp [Zs_, QQ_, find]) (by simp only [x2_, xp_, xA_, qOf, rmT, xt_, x4_, List.map_cons, List.map_nil, List.filter_cons, List.filter_nil, List.contains_cons, List.contains_nil, Bool.or_false, Bool.or_true, Bool.false_and, Bool.not_true, Bool.not_false, Bool.false_eq_true, if_true, if_false, seval]; rfl) (by simp [Aw.ids]) (by simp [find]) (by simp [z2_, x4_, xA_, xp_, Wq_, Aw.ids]) (by simp [xA_, xp_, Wq_, Aw.ids]) (by simp [Aw.ids]) ?_; simp only [Aw.ids, List.map_cons, List.map_nil, List.filter_cons, List.filter_nil, List.contains_cons, List.contains_nil, Bool.or_false, Bool.or_true, Bool.not_true, Bool.not_false, Nat.reduceBEq, Bool.false_eq_true, if_true, if_false, List.cons_append, List.nil_append, List.append_nil]; simp only [go_sem, seval]
  refine hK _ ?_; clear hK K
  exact xd_ (TT_ rfl ⟨rfl, trivial⟩ rfl)
theorem Va_ (t : List (List (List Int))) : PureCall Try.prog 5 [.agg [.l3 t]] (.tup [.bool (isA t), .int (Xu_ t)]) := by
 have hc := QL_ t
 by_cases h : Xu_ t = 0
 ·have hR := W9_ h
  have hA := QS_ t hR
  have e : isA t = decide ((Wp_ t (t.length - 1)).length = t.length) := if_pos h
  rw [e, ← ab4 hR, h]
  rw [h] at hc
  generalize grL t (V3_ t) t.length [] = L at *
  rw [show decide (L.length = t.length) = decide ((L.length : Int) = (t.length : Int)) from decide_eq_decide.2 (by omega)]
  refine gPC 17 [.tmp 2, .tmp 3] Try.call5 Try.func5 fun cx hcx => gE ?_
  refine gB ?_
  refine gC fun K hK => ?_
  first | refine xi_ (hc) rfl ?_ | refine xe_ (xg_ (hc) rfl) ?_
  refine gV ?_
  refine hK _ ?_; clear hK K
  refine gB ?_
  refine gQ ?_
  refine xb_ ?_
  (repeat refine xa_ ?_); refine xV_ (xZ_ hcx) mixed (by kernel_rfl) fun K hK => ?_; simp only [go_sem, seval]
  first | refine xi_ (hA) rfl ?_ | refine xe_ (xg_ (hA) rfl) ?_
  refine gV ?_
  refine hK _ ?_; clear hK K
  exact xd_ (aK0 trivial trivial rfl)
 ·obtain ⟨c, ec⟩ : ∃ c, Xu_ t = c := ⟨_, rfl⟩
  have e : isA t = false := if_neg h
  rw [e, ec]
  rw [ec] at hc h
  refine gPC 17 [.tmp 2, .tmp 3] Try.call5 Try.func5 fun cx hcx => gE ?_
  refine gB ?_
  refine gC fun K hK => ?_
  first | refine xi_ (hc) rfl ?_ | refine xe_ (xg_ (hc) rfl) ?_
  refine gV ?_
  refine hK _ ?_; clear hK K
  refine gB ?_
  refine gI (fun h1 => ?_) fun h1 => ?_
  ·refine gB ?_
   exact xd_ (aK0 trivial trivial rfl)
  ·exact absurd (by first | exact h1 | omega) h
end Go.Proofs.Ytlngnhbochmcoaa
