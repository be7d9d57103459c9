import Derived.Test.YtjcfefgbieeheaaQz1
import Derived.Test.YtjcfefgbieeheaaOz1
import Derived.Test.YtjcfefgbieeheaaQd3
import Derived.Test.YtjcfefgbieeheaaMq
import Derived.Test.YtjcfefgbieeheaaJz3
import Derived.Test.YtjcfefgbieeheaaMz3
set_option linter.unusedSimpArgs false
set_option linter.unusedVariables false
namespace Go.Proofs.Ytjcfefgbieeheaa
open Go Go.Aw Go.Pl
attribute [local go_sem] pickO List.getElem?_toArray List.getElem?_cons_zero List.getElem?_cons_succ Option.getD_some and_true true_and and_self
set_option maxRecDepth 100000 in
set_option maxHeartbeats 4000000 in
theorem DrawBoundsOf_ok (c : List Int) (hc : CodeOk c) : ∃ (t : Cu) (i k : Int), t.length ≤ 8 ∧ PureCall Try.prog 20 [.lv (bsV c)] (.tup [.agg [.l3 t], .int i, .int k]) := by
 have hF := from_ok c hc.len hc.byte
 have ok0 := frS_ok hc.len hc.byte
 generalize frS c = s at *
 obtain ⟨t, s1, lt, ok1, hA⟩ := l03DrawAny_ok s ok0 8 (by decide) (by decide)
 have hN := next_ok s1 ok1 24 (by omega)
 have b1 := nx_bd s1 (n := 24) (by omega)
 have ok2 := nx_ok ok1 24
 generalize nx s1 24 = q at *
 have ed : q.1.tdiv 23 = q.1 / 23 := Int.tdiv_eq_ediv_of_nonneg (by omega)
 have hM := next_ok q.2 ok2 (t.length + q.1 / 23) (by omega)
 have ok3 := nx_ok ok2 (t.length + q.1 / 23)
 generalize nx q.2 (t.length + q.1 / 23) = r at *
 have hP := pick9_ok r.2 ok3 [0, 1, 2, 3, 4, 6, 21] (by decide) (by decide)
 rw [show (([0, 1, 2, 3, 4, 6, 21] : List Int).length : Int) = 7 from rfl] at hP
 have ok4 := nx_ok ok3 7
 generalize nx r.2 7 = p at *
 obtain ⟨v, ev⟩ : ∃ v, ([0, 1, 2, 3, 4, 6, 21] : List Int).getD p.1.toNat 0 = v := ⟨_, rfl⟩
 rw [ev] at hP
 clear ev
 refine ⟨t, r.1, v, lt, ?_⟩
 unfold AnyC at hA
 refine PureCall.introR (n := 24) (rs := [.cell 2 26, .tmp 3, .tmp 4]) Try.call20 Try.func20 rfl rfl rfl (by simp only [List.length_cons, List.length_nil]; omega) (fun cx hcx hrd => ats_of ?_); simp only [argSlots, Nat.zero_add, Nat.reduceAdd]
 refine gB ?_
 (repeat refine ats_seq ?_); refine AT.ghost (st' := ⟨[(0, .lv (bsV c)), (2, .bptr 7 0), (3, .int 0), (4, .int 0)], [(7, .bx [.nil])]⟩) (ghost_trans (ghost_drop []) (ghost_can [(0, 7)] (by simp only [killL, killA, killAs, killT_srcB, killAs_bsV, qOf, rmT, killH, killT_e, List.filter_cons, List.filter_nil, List.contains_cons, List.contains_nil, Bool.or_false, Bool.or_true, Bool.false_and, Bool.not_true, Bool.not_false, Bool.false_eq_true, if_true, if_false, rnLs, rnL, rn, rns, rns_bsV, sw, SlotsLe, St.get, slotGet, List.map_cons, List.map_nil, seval, AV.int.injEq, AV.bool.injEq, AV.l1.injEq, AV.l2.injEq, AV.l3.injEq, true_and, and_true]) (by simp only [killL, killA, killAs, killT_srcB, killAs_bsV, qOf, rmT, killH, killT_e, List.filter_cons, List.filter_nil, List.contains_cons, List.contains_nil, Bool.or_false, Bool.or_true, Bool.false_and, Bool.not_true, Bool.not_false, Bool.false_eq_true, if_true, if_false, sortH, insH, rnHs, rnH, rnT_e, rnT_srcB, rn, rns, rns_bsV, sw, List.map_cons, List.map_nil, seval]))) ?_
 refine gC fun K hK => ?_
 refine fcall_box (hF) (by simp [Aw.ids]) (by simp [find]) (by simp [closedT, killT_e, killAs, killA, outQ, Aw.ids]) (by simp [killAs, killA, outQ, Aw.ids]) (by simp [Aw.ids]) ?_; simp only [Aw.ids, List.map_cons, List.map_nil, List.filter_cons, List.filter_nil, List.contains_cons, List.contains_nil, Bool.or_false, Bool.or_true, Bool.not_true, Bool.not_false, Nat.reduceBEq, Bool.false_eq_true, if_true, if_false, List.cons_append, List.nil_append]; simp only [go_sem, seval]
 refine hK _ ?_; clear hK K
 refine gC fun K hK => ?_
 refine fcall_box (hA) (by simp [Aw.ids]) (by simp [find]) (by simp [closedT, killT_e, killAs, killA, outQ, Aw.ids]) (by simp [killAs, killA, outQ, Aw.ids]) (by simp [Aw.ids]) ?_; simp only [Aw.ids, List.map_cons, List.map_nil, List.filter_cons, List.filter_nil, List.contains_cons, List.contains_nil, Bool.or_false, Bool.or_true, Bool.not_true, Bool.not_false, Nat.reduceBEq, Bool.false_eq_true, if_true, if_false, List.cons_append, List.nil_append]; simp only [go_sem, seval]
 refine hK _ ?_; clear hK K
 (repeat refine ats_seq ?_); refine AT.ghost (st' := ⟨[(2, .bptr 7 0), (3, .int 0), (4, .int 0), (5, .bptr 0 0), (6, .bptr 8 0)], [(0, srcB s1), (7, .bx [.nil]), (8, .bx [.l3 t])]⟩) (ghost_trans (ghost_drop [2]) (ghost_can [] (by simp only [killL, killA, killAs, killT_srcB, killAs_bsV, qOf, rmT, killH, killT_e, List.filter_cons, List.filter_nil, List.contains_cons, List.contains_nil, Bool.or_false, Bool.or_true, Bool.false_and, Bool.not_true, Bool.not_false, Bool.false_eq_true, if_true, if_false, rnLs, rnL, rn, rns, rns_bsV, sw, SlotsLe, St.get, slotGet, List.map_cons, List.map_nil, seval, AV.int.injEq, AV.bool.injEq, AV.l1.injEq, AV.l2.injEq, AV.l3.injEq, true_and, and_true]) (by simp only [killL, killA, killAs, killT_srcB, killAs_bsV, qOf, rmT, killH, killT_e, List.filter_cons, List.filter_nil, List.contains_cons, List.contains_nil, Bool.or_false, Bool.or_true, Bool.false_and, Bool.not_true, Bool.not_false, Bool.false_eq_true, if_true, if_false, sortH, insH, rnHs, rnH, rnT_e, rnT_srcB, rn, rns, rns_bsV, sw, List.map_cons, List.map_nil, seval]))) ?_
 (repeat refine ats_seq ?_)
 obtain ⟨z0, ez0⟩ : ∃ z : St, z = ⟨[(2, .bptr 7 0), (6, .bptr 8 0), (12, .bptr 0 0), (16, .bptr 0 0), (21, .bptr 0 0)], [(0, srcB s1), (7, .bx [.nil]), (8, .bx [.l3 t])]⟩ := ⟨_, rfl⟩
 obtain ⟨z1, ez1⟩ : ∃ z : St, z = ⟨[(2, .bptr 7 0), (6, .bptr 8 0), (11, .agg [.l3 t]), (12, .bptr 0 0), (16, .bptr 0 0), (21, .bptr 0 0)], [(0, srcB s1), (7, .bx [.nil]), (8, .bx [.l3 t])]⟩ := ⟨_, rfl⟩
 obtain ⟨z2, ez2⟩ : ∃ z : St, z = ⟨[(2, .bptr 7 0), (6, .bptr 8 0), (12, .bptr 0 0), (13, .bptr 8 0), (16, .bptr 0 0), (21, .bptr 0 0)], [(0, srcB s1), (7, .bx [.nil]), (8, .bx [.l3 t])]⟩ := ⟨_, rfl⟩
 obtain ⟨z3, ez3⟩ : ∃ z : St, z = ⟨[(2, .bptr 7 0), (6, .bptr 8 0), (12, .bptr 0 0), (17, .int q.1), (21, .bptr 0 0)], [(0, srcB q.2), (7, .bx [.nil]), (8, .bx [.l3 t])]⟩ := ⟨_, rfl⟩
 obtain ⟨z4, ez4⟩ : ∃ z : St, z = ⟨[(2, .bptr 7 0), (6, .bptr 8 0), (12, .bptr 0 0), (16, .bptr 0 0), (21, .bptr 0 0), (22, .ref 9 [])], [(0, srcB s1), (7, .bx [.nil]), (8, .bx [.l3 t]), (9, .t1 [0, 1, 2, 3, 4, 6, 21])]⟩ := ⟨_, rfl⟩
 obtain ⟨z5, ez5⟩ : ∃ z : St, z = ⟨[(2, .bptr 7 0), (11, .agg [.l3 t]), (12, .bptr 0 0), (13, .bptr 8 0), (16, .bptr 0 0), (21, .bptr 0 0)], [(0, srcB s1), (7, .bx [.nil]), (8, .bx [.l3 t])]⟩ := ⟨_, rfl⟩
 obtain ⟨z6, ez6⟩ : ∃ z : St, z = ⟨[(2, .bptr 7 0), (6, .bptr 8 0), (11, .agg [.l3 t]), (12, .bptr 0 0), (17, .int q.1), (21, .bptr 0 0)], [(0, srcB q.2), (7, .bx [.nil]), (8, .bx [.l3 t])]⟩ := ⟨_, rfl⟩
 obtain ⟨z7, ez7⟩ : ∃ z : St, z = ⟨[(2, .bptr 7 0), (6, .bptr 8 0), (11, .agg [.l3 t]), (12, .bptr 0 0), (16, .bptr 0 0), (21, .bptr 0 0), (22, .ref 9 [])], [(0, srcB s1), (7, .bx [.nil]), (8, .bx [.l3 t]), (9, .t1 [0, 1, 2, 3, 4, 6, 21])]⟩ := ⟨_, rfl⟩
 obtain ⟨z8, ez8⟩ : ∃ z : St, z = ⟨[(2, .bptr 7 0), (6, .bptr 8 0), (12, .bptr 0 0), (14, .l3 t), (16, .bptr 0 0), (21, .bptr 0 0)], [(0, srcB s1), (7, .bx [.nil]), (8, .bx [.l3 t])]⟩ := ⟨_, rfl⟩
 obtain ⟨z9, ez9⟩ : ∃ z : St, z = ⟨[(2, .bptr 7 0), (6, .bptr 8 0), (12, .bptr 0 0), (13, .bptr 8 0), (17, .int q.1), (21, .bptr 0 0)], [(0, srcB q.2), (7, .bx [.nil]), (8, .bx [.l3 t])]⟩ := ⟨_, rfl⟩
 obtain ⟨z10, ez10⟩ : ∃ z : St, z = ⟨[(2, .bptr 7 0), (6, .bptr 8 0), (12, .bptr 0 0), (13, .bptr 8 0), (16, .bptr 0 0), (21, .bptr 0 0), (22, .ref 9 [])], [(0, srcB s1), (7, .bx [.nil]), (8, .bx [.l3 t]), (9, .t1 [0, 1, 2, 3, 4, 6, 21])]⟩ := ⟨_, rfl⟩
 obtain ⟨z11, ez11⟩ : ∃ z : St, z = ⟨[(2, .bptr 7 0), (6, .bptr 8 0), (12, .bptr 0 0), (18, .int (q.1 / 23)), (21, .bptr 0 0)], [(0, srcB q.2), (7, .bx [.nil]), (8, .bx [.l3 t])]⟩ := ⟨_, rfl⟩
 obtain ⟨z12, ez12⟩ : ∃ z : St, z = ⟨[(2, .bptr 7 0), (6, .bptr 8 0), (12, .bptr 0 0), (17, .int q.1), (21, .bptr 0 0), (22, .ref 9 [])], [(0, srcB q.2), (7, .bx [.nil]), (8, .bx [.l3 t]), (9, .t1 [0, 1, 2, 3, 4, 6, 21])]⟩ := ⟨_, rfl⟩
 obtain ⟨z13, ez13⟩ : ∃ z : St, z = ⟨[(2, .bptr 7 0), (11, .agg [.l3 t]), (12, .bptr 0 0), (14, .l3 t), (16, .bptr 0 0), (21, .bptr 0 0)], [(0, srcB s1), (7, .bx [.nil]), (8, .bx [.l3 t])]⟩ := ⟨_, rfl⟩
 obtain ⟨z14, ez14⟩ : ∃ z : St, z = ⟨[(2, .bptr 7 0), (11, .agg [.l3 t]), (12, .bptr 0 0), (13, .bptr 8 0), (17, .int q.1), (21, .bptr 0 0)], [(0, srcB q.2), (7, .bx [.nil]), (8, .bx [.l3 t])]⟩ := ⟨_, rfl⟩
 obtain ⟨z15, ez15⟩ : ∃ z : St, z = ⟨[(2, .bptr 7 0), (11, .agg [.l3 t]), (12, .bptr 0 0), (13, .bptr 8 0), (16, .bptr 0 0), (21, .bptr 0 0), (22, .ref 9 [])], [(0, srcB s1), (7, .bx [.nil]), (8, .bx [.l3 t]), (9, .t1 [0, 1, 2, 3, 4, 6, 21])]⟩ := ⟨_, rfl⟩
 obtain ⟨z16, ez16⟩ : ∃ z : St, z = ⟨[(2, .bptr 7 0), (6, .bptr 8 0), (11, .agg [.l3 t]), (12, .bptr 0 0), (18, .int (q.1 / 23)), (21, .bptr 0 0)], [(0, srcB q.2), (7, .bx [.nil]), (8, .bx [.l3 t])]⟩ := ⟨_, rfl⟩
 obtain ⟨z17, ez17⟩ : ∃ z : St, z = ⟨[(2, .bptr 7 0), (6, .bptr 8 0), (11, .agg [.l3 t]), (12, .bptr 0 0), (17, .int q.1), (21, .bptr 0 0), (22, .ref 9 [])], [(0, srcB q.2), (7, .bx [.nil]), (8, .bx [.l3 t]), (9, .t1 [0, 1, 2, 3, 4, 6, 21])]⟩ := ⟨_, rfl⟩
 obtain ⟨z18, ez18⟩ : ∃ z : St, z = ⟨[(2, .bptr 7 0), (6, .bptr 8 0), (12, .bptr 0 0), (15, .int t.length), (16, .bptr 0 0), (21, .bptr 0 0)], [(0, srcB s1), (7, .bx [.nil]), (8, .bx [.l3 t])]⟩ := ⟨_, rfl⟩
 obtain ⟨z19, ez19⟩ : ∃ z : St, z = ⟨[(2, .bptr 7 0), (6, .bptr 8 0), (12, .bptr 0 0), (14, .l3 t), (17, .int q.1), (21, .bptr 0 0)], [(0, srcB q.2), (7, .bx [.nil]), (8, .bx [.l3 t])]⟩ := ⟨_, rfl⟩
 obtain ⟨z20, ez20⟩ : ∃ z : St, z = ⟨[(2, .bptr 7 0), (6, .bptr 8 0), (12, .bptr 0 0), (14, .l3 t), (16, .bptr 0 0), (21, .bptr 0 0), (22, .ref 9 [])], [(0, srcB s1), (7, .bx [.nil]), (8, .bx [.l3 t]), (9, .t1 [0, 1, 2, 3, 4, 6, 21])]⟩ := ⟨_, rfl⟩
 obtain ⟨z21, ez21⟩ : ∃ z : St, z = ⟨[(2, .bptr 7 0), (6, .bptr 8 0), (12, .bptr 0 0), (13, .bptr 8 0), (18, .int (q.1 / 23)), (21, .bptr 0 0)], [(0, srcB q.2), (7, .bx [.nil]), (8, .bx [.l3 t])]⟩ := ⟨_, rfl⟩
 obtain ⟨z22, ez22⟩ : ∃ z : St, z = ⟨[(2, .bptr 7 0), (6, .bptr 8 0), (12, .bptr 0 0), (13, .bptr 8 0), (17, .int q.1), (21, .bptr 0 0), (22, .ref 9 [])], [(0, srcB q.2), (7, .bx [.nil]), (8, .bx [.l3 t]), (9, .t1 [0, 1, 2, 3, 4, 6, 21])]⟩ := ⟨_, rfl⟩
 obtain ⟨z23, ez23⟩ : ∃ z : St, z = ⟨[(2, .bptr 7 0), (6, .bptr 8 0), (12, .bptr 0 0), (18, .int (q.1 / 23)), (21, .bptr 0 0), (22, .ref 9 [])], [(0, srcB q.2), (7, .bx [.nil]), (8, .bx [.l3 t]), (9, .t1 [0, 1, 2, 3, 4, 6, 21])]⟩ := ⟨_, rfl⟩
 obtain ⟨z24, ez24⟩ : ∃ z : St, z = ⟨[(2, .bptr 7 0), (11, .agg [.l3 t]), (12, .bptr 0 0), (15, .int t.length), (16, .bptr 0 0), (21, .bptr 0 0)], [(0, srcB s1), (7, .bx [.nil]), (8, .bx [.l3 t])]⟩ := ⟨_, rfl⟩
 obtain ⟨z25, ez25⟩ : ∃ z : St, z = ⟨[(2, .bptr 7 0), (11, .agg [.l3 t]), (12, .bptr 0 0), (14, .l3 t), (17, .int q.1), (21, .bptr 0 0)], [(0, srcB q.2), (7, .bx [.nil]), (8, .bx [.l3 t])]⟩ := ⟨_, rfl⟩
 obtain ⟨z26, ez26⟩ : ∃ z : St, z = ⟨[(2, .bptr 7 0), (11, .agg [.l3 t]), (12, .bptr 0 0), (14, .l3 t), (16, .bptr 0 0), (21, .bptr 0 0), (22, .ref 9 [])], [(0, srcB s1), (7, .bx [.nil]), (8, .bx [.l3 t]), (9, .t1 [0, 1, 2, 3, 4, 6, 21])]⟩ := ⟨_, rfl⟩
 obtain ⟨z27, ez27⟩ : ∃ z : St, z = ⟨[(2, .bptr 7 0), (11, .agg [.l3 t]), (12, .bptr 0 0), (13, .bptr 8 0), (18, .int (q.1 / 23)), (21, .bptr 0 0)], [(0, srcB q.2), (7, .bx [.nil]), (8, .bx [.l3 t])]⟩ := ⟨_, rfl⟩
 obtain ⟨z28, ez28⟩ : ∃ z : St, z = ⟨[(2, .bptr 7 0), (11, .agg [.l3 t]), (12, .bptr 0 0), (13, .bptr 8 0), (17, .int q.1), (21, .bptr 0 0), (22, .ref 9 [])], [(0, srcB q.2), (7, .bx [.nil]), (8, .bx [.l3 t]), (9, .t1 [0, 1, 2, 3, 4, 6, 21])]⟩ := ⟨_, rfl⟩
 obtain ⟨z29, ez29⟩ : ∃ z : St, z = ⟨[(2, .bptr 7 0), (6, .bptr 8 0), (11, .agg [.l3 t]), (12, .bptr 0 0), (18, .int (q.1 / 23)), (21, .bptr 0 0), (22, .ref 9 [])], [(0, srcB q.2), (7, .bx [.nil]), (8, .bx [.l3 t]), (9, .t1 [0, 1, 2, 3, 4, 6, 21])]⟩ := ⟨_, rfl⟩
 obtain ⟨z30, ez30⟩ : ∃ z : St, z = ⟨[(2, .bptr 7 0), (6, .bptr 8 0), (12, .bptr 0 0), (15, .int t.length), (17, .int q.1), (21, .bptr 0 0)], [(0, srcB q.2), (7, .bx [.nil]), (8, .bx [.l3 t])]⟩ := ⟨_, rfl⟩
 obtain ⟨z31, ez31⟩ : ∃ z : St, z = ⟨[(2, .bptr 7 0), (6, .bptr 8 0), (12, .bptr 0 0), (15, .int t.length), (16, .bptr 0 0), (21, .bptr 0 0), (22, .ref 9 [])], [(0, srcB s1), (7, .bx [.nil]), (8, .bx [.l3 t]), (9, .t1 [0, 1, 2, 3, 4, 6, 21])]⟩ := ⟨_, rfl⟩
 obtain ⟨z32, ez32⟩ : ∃ z : St, z = ⟨[(2, .bptr 7 0), (6, .bptr 8 0), (12, .bptr 0 0), (14, .l3 t), (18, .int (q.1 / 23)), (21, .bptr 0 0)], [(0, srcB q.2), (7, .bx [.nil]), (8, .bx [.l3 t])]⟩ := ⟨_, rfl⟩
 obtain ⟨z33, ez33⟩ : ∃ z : St, z = ⟨[(2, .bptr 7 0), (6, .bptr 8 0), (12, .bptr 0 0), (14, .l3 t), (17, .int q.1), (21, .bptr 0 0), (22, .ref 9 [])], [(0, srcB q.2), (7, .bx [.nil]), (8, .bx [.l3 t]), (9, .t1 [0, 1, 2, 3, 4, 6, 21])]⟩ := ⟨_, rfl⟩
 obtain ⟨z34, ez34⟩ : ∃ z : St, z = ⟨[(2, .bptr 7 0), (6, .bptr 8 0), (12, .bptr 0 0), (13, .bptr 8 0), (18, .int (q.1 / 23)), (21, .bptr 0 0), (22, .ref 9 [])], [(0, srcB q.2), (7, .bx [.nil]), (8, .bx [.l3 t]), (9, .t1 [0, 1, 2, 3, 4, 6, 21])]⟩ := ⟨_, rfl⟩
 obtain ⟨z35, ez35⟩ : ∃ z : St, z = ⟨[(2, .bptr 7 0), (11, .agg [.l3 t]), (12, .bptr 0 0), (15, .int t.length), (17, .int q.1), (21, .bptr 0 0)], [(0, srcB q.2), (7, .bx [.nil]), (8, .bx [.l3 t])]⟩ := ⟨_, rfl⟩
 obtain ⟨z36, ez36⟩ : ∃ z : St, z = ⟨[(2, .bptr 7 0), (11, .agg [.l3 t]), (12, .bptr 0 0), (15, .int t.length), (16, .bptr 0 0), (21, .bptr 0 0), (22, .ref 9 [])], [(0, srcB s1), (7, .bx [.nil]), (8, .bx [.l3 t]), (9, .t1 [0, 1, 2, 3, 4, 6, 21])]⟩ := ⟨_, rfl⟩
 obtain ⟨z37, ez37⟩ : ∃ z : St, z = ⟨[(2, .bptr 7 0), (11, .agg [.l3 t]), (12, .bptr 0 0), (14, .l3 t), (18, .int (q.1 / 23)), (21, .bptr 0 0)], [(0, srcB q.2), (7, .bx [.nil]), (8, .bx [.l3 t])]⟩ := ⟨_, rfl⟩
 obtain ⟨z38, ez38⟩ : ∃ z : St, z = ⟨[(2, .bptr 7 0), (11, .agg [.l3 t]), (12, .bptr 0 0), (14, .l3 t), (17, .int q.1), (21, .bptr 0 0), (22, .ref 9 [])], [(0, srcB q.2), (7, .bx [.nil]), (8, .bx [.l3 t]), (9, .t1 [0, 1, 2, 3, 4, 6, 21])]⟩ := ⟨_, rfl⟩
 obtain ⟨z39, ez39⟩ : ∃ z : St, z = ⟨[(2, .bptr 7 0), (11, .agg [.l3 t]), (12, .bptr 0 0), (13, .bptr 8 0), (18, .int (q.1 / 23)), (21, .bptr 0 0), (22, .ref 9 [])], [(0, srcB q.2), (7, .bx [.nil]), (8, .bx [.l3 t]), (9, .t1 [0, 1, 2, 3, 4, 6, 21])]⟩ := ⟨_, rfl⟩
 obtain ⟨z40, ez40⟩ : ∃ z : St, z = ⟨[(2, .bptr 7 0), (6, .bptr 8 0), (12, .bptr 0 0), (15, .int t.length), (18, .int (q.1 / 23)), (21, .bptr 0 0)], [(0, srcB q.2), (7, .bx [.nil]), (8, .bx [.l3 t])]⟩ := ⟨_, rfl⟩
 obtain ⟨z41, ez41⟩ : ∃ z : St, z = ⟨[(2, .bptr 7 0), (6, .bptr 8 0), (12, .bptr 0 0), (15, .int t.length), (17, .int q.1), (21, .bptr 0 0), (22, .ref 9 [])], [(0, srcB q.2), (7, .bx [.nil]), (8, .bx [.l3 t]), (9, .t1 [0, 1, 2, 3, 4, 6, 21])]⟩ := ⟨_, rfl⟩
 obtain ⟨z42, ez42⟩ : ∃ z : St, z = ⟨[(2, .bptr 7 0), (6, .bptr 8 0), (12, .bptr 0 0), (14, .l3 t), (18, .int (q.1 / 23)), (21, .bptr 0 0), (22, .ref 9 [])], [(0, srcB q.2), (7, .bx [.nil]), (8, .bx [.l3 t]), (9, .t1 [0, 1, 2, 3, 4, 6, 21])]⟩ := ⟨_, rfl⟩
 obtain ⟨z43, ez43⟩ : ∃ z : St, z = ⟨[(2, .bptr 7 0), (11, .agg [.l3 t]), (12, .bptr 0 0), (15, .int t.length), (18, .int (q.1 / 23)), (21, .bptr 0 0)], [(0, srcB q.2), (7, .bx [.nil]), (8, .bx [.l3 t])]⟩ := ⟨_, rfl⟩
 obtain ⟨z44, ez44⟩ : ∃ z : St, z = ⟨[(2, .bptr 7 0), (11, .agg [.l3 t]), (12, .bptr 0 0), (15, .int t.length), (17, .int q.1), (21, .bptr 0 0), (22, .ref 9 [])], [(0, srcB q.2), (7, .bx [.nil]), (8, .bx [.l3 t]), (9, .t1 [0, 1, 2, 3, 4, 6, 21])]⟩ := ⟨_, rfl⟩
 obtain ⟨z45, ez45⟩ : ∃ z : St, z = ⟨[(2, .bptr 7 0), (11, .agg [.l3 t]), (12, .bptr 0 0), (14, .l3 t), (18, .int (q.1 / 23)), (21, .bptr 0 0), (22, .ref 9 [])], [(0, srcB q.2), (7, .bx [.nil]), (8, .bx [.l3 t]), (9, .t1 [0, 1, 2, 3, 4, 6, 21])]⟩ := ⟨_, rfl⟩
 obtain ⟨z46, ez46⟩ : ∃ z : St, z = ⟨[(2, .bptr 7 0), (6, .bptr 8 0), (12, .bptr 0 0), (19, .int (t.length + q.1 / 23)), (21, .bptr 0 0)], [(0, srcB q.2), (7, .bx [.nil]), (8, .bx [.l3 t])]⟩ := ⟨_, rfl⟩
 obtain ⟨z47, ez47⟩ : ∃ z : St, z = ⟨[(2, .bptr 7 0), (6, .bptr 8 0), (12, .bptr 0 0), (15, .int t.length), (18, .int (q.1 / 23)), (21, .bptr 0 0), (22, .ref 9 [])], [(0, srcB q.2), (7, .bx [.nil]), (8, .bx [.l3 t]), (9, .t1 [0, 1, 2, 3, 4, 6, 21])]⟩ := ⟨_, rfl⟩
 obtain ⟨z48, ez48⟩ : ∃ z : St, z = ⟨[(2, .bptr 7 0), (11, .agg [.l3 t]), (12, .bptr 0 0), (19, .int (t.length + q.1 / 23)), (21, .bptr 0 0)], [(0, srcB q.2), (7, .bx [.nil]), (8, .bx [.l3 t])]⟩ := ⟨_, rfl⟩
 obtain ⟨z49, ez49⟩ : ∃ z : St, z = ⟨[(2, .bptr 7 0), (11, .agg [.l3 t]), (12, .bptr 0 0), (15, .int t.length), (18, .int (q.1 / 23)), (21, .bptr 0 0), (22, .ref 9 [])], [(0, srcB q.2), (7, .bx [.nil]), (8, .bx [.l3 t]), (9, .t1 [0, 1, 2, 3, 4, 6, 21])]⟩ := ⟨_, rfl⟩
 obtain ⟨z50, ez50⟩ : ∃ z : St, z = ⟨[(2, .bptr 7 0), (6, .bptr 8 0), (20, .int r.1), (21, .bptr 0 0)], [(0, srcB r.2), (7, .bx [.nil]), (8, .bx [.l3 t])]⟩ := ⟨_, rfl⟩
 obtain ⟨z51, ez51⟩ : ∃ z : St, z = ⟨[(2, .bptr 7 0), (6, .bptr 8 0), (12, .bptr 0 0), (19, .int (t.length + q.1 / 23)), (21, .bptr 0 0), (22, .ref 9 [])], [(0, srcB q.2), (7, .bx [.nil]), (8, .bx [.l3 t]), (9, .t1 [0, 1, 2, 3, 4, 6, 21])]⟩ := ⟨_, rfl⟩
 obtain ⟨z52, ez52⟩ : ∃ z : St, z = ⟨[(2, .bptr 7 0), (11, .agg [.l3 t]), (20, .int r.1), (21, .bptr 0 0)], [(0, srcB r.2), (7, .bx [.nil]), (8, .bx [.l3 t])]⟩ := ⟨_, rfl⟩
 obtain ⟨z53, ez53⟩ : ∃ z : St, z = ⟨[(2, .bptr 7 0), (11, .agg [.l3 t]), (12, .bptr 0 0), (19, .int (t.length + q.1 / 23)), (21, .bptr 0 0), (22, .ref 9 [])], [(0, srcB q.2), (7, .bx [.nil]), (8, .bx [.l3 t]), (9, .t1 [0, 1, 2, 3, 4, 6, 21])]⟩ := ⟨_, rfl⟩
 obtain ⟨z54, ez54⟩ : ∃ z : St, z = ⟨[(2, .bptr 7 0), (6, .bptr 8 0), (20, .int r.1), (21, .bptr 0 0), (22, .ref 9 [])], [(0, srcB r.2), (7, .bx [.nil]), (8, .bx [.l3 t]), (9, .t1 [0, 1, 2, 3, 4, 6, 21])]⟩ := ⟨_, rfl⟩
 obtain ⟨z55, ez55⟩ : ∃ z : St, z = ⟨[(2, .bptr 7 0), (11, .agg [.l3 t]), (20, .int r.1), (21, .bptr 0 0), (22, .ref 9 [])], [(0, srcB r.2), (7, .bx [.nil]), (8, .bx [.l3 t]), (9, .t1 [0, 1, 2, 3, 4, 6, 21])]⟩ := ⟨_, rfl⟩
 obtain ⟨z56, ez56⟩ : ∃ z : St, z = ⟨[(2, .bptr 7 0), (6, .bptr 8 0), (20, .int r.1), (23, .int v)], [(0, srcB p.2), (7, .bx [.nil]), (8, .bx [.l3 t]), (9, .t1 [0, 1, 2, 3, 4, 6, 21])]⟩ := ⟨_, rfl⟩
 obtain ⟨z57, ez57⟩ : ∃ z : St, z = ⟨[(2, .bptr 7 0), (11, .agg [.l3 t]), (20, .int r.1), (23, .int v)], [(0, srcB p.2), (7, .bx [.nil]), (8, .bx [.l3 t]), (9, .t1 [0, 1, 2, 3, 4, 6, 21])]⟩ := ⟨_, rfl⟩
 obtain ⟨z58, ez58⟩ : ∃ z : St, z = ⟨[(2, .bptr 7 0), (20, .int r.1), (23, .int v)], [(0, srcB p.2), (7, .bx [.l3 t]), (8, .bx [.l3 t]), (9, .t1 [0, 1, 2, 3, 4, 6, 21])]⟩ := ⟨_, rfl⟩
 obtain ⟨z59, ez59⟩ : ∃ z : St, z = ⟨[(2, .bptr 7 0), (3, .int r.1), (23, .int v)], [(0, srcB p.2), (7, .bx [.l3 t]), (8, .bx [.l3 t]), (9, .t1 [0, 1, 2, 3, 4, 6, 21])]⟩ := ⟨_, rfl⟩
 obtain ⟨z60, ez60⟩ : ∃ z : St, z = ⟨[(2, .bptr 7 0), (3, .int r.1), (4, .int v)], [(0, srcB p.2), (7, .bx [.l3 t]), (8, .bx [.l3 t]), (9, .t1 [0, 1, 2, 3, 4, 6, 21])]⟩ := ⟨_, rfl⟩
 refine ats_table [6, 9, 12] [1, 5, 10] [[1, 5, 10], [0, 1, 5, 10], [1, 2, 5, 10], [1, 5, 6, 10], [1, 5, 10, 11], [0, 1, 2, 5, 10], [0, 1, 5, 6, 10], [0, 1, 5, 10, 11], [1, 2, 3, 5, 10], [1, 2, 5, 6, 10], [1, 2, 5, 10, 11], [1, 5, 6, 7, 10], [1, 5, 6, 10, 11], [0, 1, 2, 3, 5, 10], [0, 1, 2, 5, 6, 10], [0, 1, 2, 5, 10, 11], [0, 1, 5, 6, 7, 10], [0, 1, 5, 6, 10, 11], [1, 2, 3, 4, 5, 10], [1, 2, 3, 5, 6, 10], [1, 2, 3, 5, 10, 11], [1, 2, 5, 6, 7, 10], [1, 2, 5, 6, 10, 11], [1, 5, 6, 7, 10, 11], [0, 1, 2, 3, 4, 5, 10], [0, 1, 2, 3, 5, 6, 10], [0, 1, 2, 3, 5, 10, 11], [0, 1, 2, 5, 6, 7, 10], [0, 1, 2, 5, 6, 10, 11], [0, 1, 5, 6, 7, 10, 11], [1, 2, 3, 4, 5, 6, 10], [1, 2, 3, 4, 5, 10, 11], [1, 2, 3, 5, 6, 7, 10], [1, 2, 3, 5, 6, 10, 11], [1, 2, 5, 6, 7, 10, 11], [0, 1, 2, 3, 4, 5, 6, 10], [0, 1, 2, 3, 4, 5, 10, 11], [0, 1, 2, 3, 5, 6, 7, 10], [0, 1, 2, 3, 5, 6, 10, 11], [0, 1, 2, 5, 6, 7, 10, 11], [1, 2, 3, 4, 5, 6, 7, 10], [1, 2, 3, 4, 5, 6, 10, 11], [1, 2, 3, 5, 6, 7, 10, 11], [0, 1, 2, 3, 4, 5, 6, 7, 10], [0, 1, 2, 3, 4, 5, 6, 10, 11], [0, 1, 2, 3, 5, 6, 7, 10, 11], [1, 2, 3, 4, 5, 6, 7, 8, 10], [1, 2, 3, 4, 5, 6, 7, 10, 11], [0, 1, 2, 3, 4, 5, 6, 7, 8, 10], [0, 1, 2, 3, 4, 5, 6, 7, 10, 11], [1, 2, 3, 4, 5, 6, 7, 8, 9, 10], [1, 2, 3, 4, 5, 6, 7, 8, 10, 11], [0, 1, 2, 3, 4, 5, 6, 7, 8, 9, 10], [0, 1, 2, 3, 4, 5, 6, 7, 8, 10, 11], [1, 2, 3, 4, 5, 6, 7, 8, 9, 10, 11], [0, 1, 2, 3, 4, 5, 6, 7, 8, 9, 10, 11], [1, 2, 3, 4, 5, 6, 7, 8, 9, 10, 11, 12], [0, 1, 2, 3, 4, 5, 6, 7, 8, 9, 10, 11, 12], [0, 1, 2, 3, 4, 5, 6, 7, 8, 9, 10, 11, 12, 13], [0, 1, 2, 3, 4, 5, 6, 7, 8, 9, 10, 11, 12, 13, 14], [0, 1, 2, 3, 4, 5, 6, 7, 8, 9, 10, 11, 12, 13, 14, 15]] [(0, 0, 1), (0, 2, 2), (0, 6, 3), (0, 11, 4), (1, 2, 5), (1, 6, 6), (1, 11, 7), (2, 0, 5), (2, 3, 8), (2, 6, 9), (2, 11, 10), (3, 0, 6), (3, 2, 9), (3, 7, 11), (3, 11, 12), (4, 0, 7), (4, 2, 10), (4, 6, 12), (5, 3, 13), (5, 6, 14), (5, 11, 15), (6, 2, 14), (6, 7, 16), (6, 11, 17), (7, 2, 15), (7, 6, 17), (8, 0, 13), (8, 4, 18), (8, 6, 19), (8, 11, 20), (9, 0, 14), (9, 3, 19), (9, 7, 21), (9, 11, 22), (10, 0, 15), (10, 3, 20), (10, 6, 22), (11, 0, 16), (11, 2, 21), (11, 11, 23), (12, 0, 17), (12, 2, 22), (12, 7, 23), (13, 4, 24), (13, 6, 25), (13, 11, 26), (14, 3, 25), (14, 7, 27), (14, 11, 28), (15, 3, 26), (15, 6, 28), (16, 2, 27), (16, 11, 29), (17, 2, 28), (17, 7, 29), (18, 0, 24), (18, 6, 30), (18, 11, 31), (19, 0, 25), (19, 4, 30), (19, 7, 32), (19, 11, 33), (20, 0, 26), (20, 4, 31), (20, 6, 33), (21, 0, 27), (21, 3, 32), (21, 11, 34), (22, 0, 28), (22, 3, 33), (22, 7, 34), (23, 0, 29), (23, 2, 34), (24, 6, 35), (24, 11, 36), (25, 4, 35), (25, 7, 37), (25, 11, 38), (26, 4, 36), (26, 6, 38), (27, 3, 37), (27, 11, 39), (28, 3, 38), (28, 7, 39), (29, 2, 39), (30, 0, 35), (30, 7, 40), (30, 11, 41), (31, 0, 36), (31, 6, 41), (32, 0, 37), (32, 4, 40), (32, 11, 42), (33, 0, 38), (33, 4, 41), (33, 7, 42), (34, 0, 39), (34, 3, 42), (35, 7, 43), (35, 11, 44), (36, 6, 44), (37, 4, 43), (37, 11, 45), (38, 4, 44), (38, 7, 45), (39, 3, 45), (40, 0, 43), (40, 8, 46), (40, 11, 47), (41, 0, 44), (41, 7, 47), (42, 0, 45), (42, 4, 47), (43, 8, 48), (43, 11, 49), (44, 7, 49), (45, 4, 49), (46, 0, 48), (46, 9, 50), (46, 11, 51), (47, 0, 49), (47, 8, 51), (48, 9, 52), (48, 11, 53), (49, 8, 53), (50, 0, 52), (50, 11, 54), (51, 0, 53), (51, 9, 54), (52, 11, 55), (53, 9, 55), (54, 0, 55), (54, 12, 56), (55, 12, 57), (56, 0, 57), (57, 13, 58), (58, 14, 59), (59, 15, 60)] [z0, z1, z2, z3, z4, z5, z6, z7, z8, z9, z10, z11, z12, z13, z14, z15, z16, z17, z18, z19, z20, z21, z22, z23, z24, z25, z26, z27, z28, z29, z30, z31, z32, z33, z34, z35, z36, z37, z38, z39, z40, z41, z42, z43, z44, z45, z46, z47, z48, z49, z50, z51, z52, z53, z54, z55, z56, z57, z58, z59, z60] hrd (by first | exact fix0 hcx | exact fix1 hcx rfl | exact fixN hcx rfl) mixed (by kernel_rfl) ?_ ?_ ?_
 ·show mvTRun _ _ _ _ _ _ (fun s => Ghost _ _ s z0)
  rw [ez0]; simp only [go_sem, seval]; exact gD5
 ·refine ⟨?_, ?_, ?_, ?_, ?_, ?_, ?_, ?_, ?_, ?_, ?_, ?_, ?_, ?_, ?_, ?_, ?_, ?_, ?_, ?_, ?_, ?_, ?_, ?_, ?_, ?_, ?_, ?_, ?_, ?_, ?_, ?_, ?_, ?_, ?_, ?_, ?_, ?_, ?_, ?_, ?_, ?_, ?_, ?_, ?_, ?_, ?_, ?_, ?_, ?_, ?_, ?_, ?_, ?_, ?_, ?_, ?_, ?_, ?_, ?_, ?_, ?_, ?_, ?_, ?_, ?_, ?_, ?_, ?_, ?_, ?_, ?_, ?_, ?_, ?_, ?_, ?_, ?_, ?_, ?_, ?_, ?_, ?_, ?_, ?_, ?_, ?_, ?_, ?_, ?_, ?_, ?_, ?_, ?_, ?_, ?_, ?_, ?_, ?_, ?_, ?_, ?_, ?_, ?_, ?_, ?_, ?_, ?_, ?_, ?_, ?_, ?_, ?_, ?_, ?_, ?_, ?_, ?_, ?_, ?_, ?_, ?_, ?_, ?_, ?_, ?_, ?_, ?_, ?_, ?_, ?_, ?_, ?_, ?_, ?_, ?_, ?_, ?_, trivial⟩
  ·show gRun _ _ _ _ _ z0 (fun st' => Ghost _ _ st' z1)
   rw [ez0, ez1]; simp only [go_sem, seval]; exact gD6
  ·show gRun _ _ _ _ _ z0 (fun st' => Ghost _ _ st' z2)
   rw [ez0, ez2]; simp only [go_sem, seval]; exact dt_can ⟨rfl, rfl, rfl, rfl, rfl, rfl, trivial⟩ rfl
  ·show gRun _ _ _ _ _ z0 (fun st' => Ghost _ _ st' z3)
   rw [ez0, ez3]; simp only [go_sem, seval]; refine fcall_src (hN) rfl rfl ?_; simp only [go_sem, seval]; exact dt_can ⟨rfl, rfl, rfl, rfl, rfl, trivial⟩ rfl
  ·show gRun _ _ _ _ _ z0 (fun st' => Ghost _ _ st' z4)
   rw [ez0, ez4]; simp only [go_sem, seval]; exact gD6
  ·show gRun _ _ _ _ _ z1 (fun st' => Ghost _ _ st' z5)
   rw [ez1, ez5]; simp only [go_sem, seval]; exact dt_can ⟨rfl, rfl, rfl, rfl, rfl, rfl, trivial⟩ rfl
  ·show gRun _ _ _ _ _ z1 (fun st' => Ghost _ _ st' z6)
   rw [ez1, ez6]; simp only [go_sem, seval]; refine fcall_src (hN) rfl rfl ?_; simp only [go_sem, seval]; exact dt_can ⟨rfl, rfl, rfl, rfl, rfl, rfl, trivial⟩ rfl
  ·show gRun _ _ _ _ _ z1 (fun st' => Ghost _ _ st' z7)
   rw [ez1, ez7]; simp only [go_sem, seval]; exact gD7
  ·show gRun _ _ _ _ _ z2 (fun st' => Ghost _ _ st' z5)
   rw [ez2, ez5]; simp only [go_sem, seval]; exact gD6
  ·show gRun _ _ _ _ _ z2 (fun st' => Ghost _ _ st' z8)
   rw [ez2, ez8]; simp only [go_sem, seval]; exact gD6
  ·show gRun _ _ _ _ _ z2 (fun st' => Ghost _ _ st' z9)
   rw [ez2, ez9]; simp only [go_sem, seval]; refine fcall_src (hN) rfl rfl ?_; simp only [go_sem, seval]; exact dt_can ⟨rfl, rfl, rfl, rfl, rfl, rfl, trivial⟩ rfl
  ·show gRun _ _ _ _ _ z2 (fun st' => Ghost _ _ st' z10)
   rw [ez2, ez10]; simp only [go_sem, seval]; exact gD7
  ·show gRun _ _ _ _ _ z3 (fun st' => Ghost _ _ st' z6)
   rw [ez3, ez6]; simp only [go_sem, seval]; exact gD6
  ·show gRun _ _ _ _ _ z3 (fun st' => Ghost _ _ st' z9)
   rw [ez3, ez9]; simp only [go_sem, seval]; exact dt_can ⟨rfl, rfl, rfl, rfl, rfl, rfl, trivial⟩ rfl
  ·show gRun _ _ _ _ _ z3 (fun st' => Ghost _ _ st' z11)
   rw [ez3, ez11]; simp only [go_sem, seval]; (try simp only [ed]); exact gD5
  ·show gRun _ _ _ _ _ z3 (fun st' => Ghost _ _ st' z12)
   rw [ez3, ez12]; simp only [go_sem, seval]; exact gD6
  ·show gRun _ _ _ _ _ z4 (fun st' => Ghost _ _ st' z7)
   rw [ez4, ez7]; simp only [go_sem, seval]; exact gD7
  ·show gRun _ _ _ _ _ z4 (fun st' => Ghost _ _ st' z10)
   rw [ez4, ez10]; simp only [go_sem, seval]; exact dt_can ⟨rfl, rfl, rfl, rfl, rfl, rfl, rfl, trivial⟩ rfl
  ·show gRun _ _ _ _ _ z4 (fun st' => Ghost _ _ st' z12)
   rw [ez4, ez12]; simp only [go_sem, seval]; refine fcall_src (hN) rfl rfl ?_; simp only [go_sem, seval]; exact dt_can ⟨rfl, rfl, rfl, rfl, rfl, rfl, trivial⟩ rfl
  ·show gRun _ _ _ _ _ z5 (fun st' => Ghost _ _ st' z13)
   rw [ez5, ez13]; simp only [go_sem, seval]; exact gD6
  ·show gRun _ _ _ _ _ z5 (fun st' => Ghost _ _ st' z14)
   rw [ez5, ez14]; simp only [go_sem, seval]; refine fcall_src (hN) rfl rfl ?_; simp only [go_sem, seval]; exact dt_can ⟨rfl, rfl, rfl, rfl, rfl, rfl, trivial⟩ rfl
  ·show gRun _ _ _ _ _ z5 (fun st' => Ghost _ _ st' z15)
   rw [ez5, ez15]; simp only [go_sem, seval]; exact gD7
  ·show gRun _ _ _ _ _ z6 (fun st' => Ghost _ _ st' z14)
   rw [ez6, ez14]; simp only [go_sem, seval]; exact dt_can ⟨rfl, rfl, rfl, rfl, rfl, rfl, trivial⟩ rfl
  ·show gRun _ _ _ _ _ z6 (fun st' => Ghost _ _ st' z16)
   rw [ez6, ez16]; simp only [go_sem, seval]; (try simp only [ed]); exact gD6
  ·show gRun _ _ _ _ _ z6 (fun st' => Ghost _ _ st' z17)
   rw [ez6, ez17]; simp only [go_sem, seval]; exact gD7
  ·show gRun _ _ _ _ _ z7 (fun st' => Ghost _ _ st' z15)
   rw [ez7, ez15]; simp only [go_sem, seval]; exact dt_can ⟨rfl, rfl, rfl, rfl, rfl, rfl, rfl, trivial⟩ rfl
  ·show gRun _ _ _ _ _ z7 (fun st' => Ghost _ _ st' z17)
   rw [ez7, ez17]; simp only [go_sem, seval]; refine fcall_src (hN) rfl rfl ?_; simp only [go_sem, seval]; exact dt_can ⟨rfl, rfl, rfl, rfl, rfl, rfl, rfl, trivial⟩ rfl
  ·show gRun _ _ _ _ _ z8 (fun st' => Ghost _ _ st' z13)
   rw [ez8, ez13]; simp only [go_sem, seval]; exact gD6
  ·show gRun _ _ _ _ _ z8 (fun st' => Ghost _ _ st' z18)
   rw [ez8, ez18]; simp only [go_sem, seval]; exact gD6
  ·show gRun _ _ _ _ _ z8 (fun st' => Ghost _ _ st' z19)
   rw [ez8, ez19]; simp only [go_sem, seval]; refine fcall_src (hN) rfl rfl ?_; simp only [go_sem, seval]; exact dt_can ⟨rfl, rfl, rfl, rfl, rfl, rfl, trivial⟩ rfl
  ·show gRun _ _ _ _ _ z8 (fun st' => Ghost _ _ st' z20)
   rw [ez8, ez20]; simp only [go_sem, seval]; exact gD7
  ·show gRun _ _ _ _ _ z9 (fun st' => Ghost _ _ st' z14)
   rw [ez9, ez14]; simp only [go_sem, seval]; exact gD6
  ·show gRun _ _ _ _ _ z9 (fun st' => Ghost _ _ st' z19)
   rw [ez9, ez19]; simp only [go_sem, seval]; exact gD6
  ·show gRun _ _ _ _ _ z9 (fun st' => Ghost _ _ st' z21)
   rw [ez9, ez21]; simp only [go_sem, seval]; (try simp only [ed]); exact gD6
  ·show gRun _ _ _ _ _ z9 (fun st' => Ghost _ _ st' z22)
   rw [ez9, ez22]; simp only [go_sem, seval]; exact gD7
  ·show gRun _ _ _ _ _ z10 (fun st' => Ghost _ _ st' z15)
   rw [ez10, ez15]; simp only [go_sem, seval]; exact gD7
  ·show gRun _ _ _ _ _ z10 (fun st' => Ghost _ _ st' z20)
   rw [ez10, ez20]; simp only [go_sem, seval]; exact gD7
  ·show gRun _ _ _ _ _ z10 (fun st' => Ghost _ _ st' z22)
   rw [ez10, ez22]; simp only [go_sem, seval]; refine fcall_src (hN) rfl rfl ?_; simp only [go_sem, seval]; exact dt_can ⟨rfl, rfl, rfl, rfl, rfl, rfl, rfl, trivial⟩ rfl
  ·show gRun _ _ _ _ _ z11 (fun st' => Ghost _ _ st' z16)
   rw [ez11, ez16]; simp only [go_sem, seval]; exact gD6
  ·show gRun _ _ _ _ _ z11 (fun st' => Ghost _ _ st' z21)
   rw [ez11, ez21]; simp only [go_sem, seval]; exact dt_can ⟨rfl, rfl, rfl, rfl, rfl, rfl, trivial⟩ rfl
  ·show gRun _ _ _ _ _ z11 (fun st' => Ghost _ _ st' z23)
   rw [ez11, ez23]; simp only [go_sem, seval]; exact gD6
  ·show gRun _ _ _ _ _ z12 (fun st' => Ghost _ _ st' z17)
   rw [ez12, ez17]; simp only [go_sem, seval]; exact gD7
  ·show gRun _ _ _ _ _ z12 (fun st' => Ghost _ _ st' z22)
   rw [ez12, ez22]; simp only [go_sem, seval]; exact dt_can ⟨rfl, rfl, rfl, rfl, rfl, rfl, rfl, trivial⟩ rfl
  ·show gRun _ _ _ _ _ z12 (fun st' => Ghost _ _ st' z23)
   rw [ez12, ez23]; simp only [go_sem, seval]; (try simp only [ed]); exact gD6
  ·show gRun _ _ _ _ _ z13 (fun st' => Ghost _ _ st' z24)
   rw [ez13, ez24]; simp only [go_sem, seval]; exact gD6
  ·show gRun _ _ _ _ _ z13 (fun st' => Ghost _ _ st' z25)
   rw [ez13, ez25]; simp only [go_sem, seval]; refine fcall_src (hN) rfl rfl ?_; simp only [go_sem, seval]; exact dt_can ⟨rfl, rfl, rfl, rfl, rfl, rfl, trivial⟩ rfl
  ·show gRun _ _ _ _ _ z13 (fun st' => Ghost _ _ st' z26)
   rw [ez13, ez26]; simp only [go_sem, seval]; exact gD7
  ·show gRun _ _ _ _ _ z14 (fun st' => Ghost _ _ st' z25)
   rw [ez14, ez25]; simp only [go_sem, seval]; exact gD6
  ·show gRun _ _ _ _ _ z14 (fun st' => Ghost _ _ st' z27)
   rw [ez14, ez27]; simp only [go_sem, seval]; (try simp only [ed]); exact gD6
  ·show gRun _ _ _ _ _ z14 (fun st' => Ghost _ _ st' z28)
   rw [ez14, ez28]; simp only [go_sem, seval]; exact gD7
  ·show gRun _ _ _ _ _ z15 (fun st' => Ghost _ _ st' z26)
   rw [ez15, ez26]; simp only [go_sem, seval]; exact gD7
  ·show gRun _ _ _ _ _ z15 (fun st' => Ghost _ _ st' z28)
   rw [ez15, ez28]; simp only [go_sem, seval]; refine fcall_src (hN) rfl rfl ?_; simp only [go_sem, seval]; exact dt_can ⟨rfl, rfl, rfl, rfl, rfl, rfl, rfl, trivial⟩ rfl
  ·show gRun _ _ _ _ _ z16 (fun st' => Ghost _ _ st' z27)
   rw [ez16, ez27]; simp only [go_sem, seval]; exact dt_can ⟨rfl, rfl, rfl, rfl, rfl, rfl, trivial⟩ rfl
  ·show gRun _ _ _ _ _ z16 (fun st' => Ghost _ _ st' z29)
   rw [ez16, ez29]; simp only [go_sem, seval]; exact gD7
  ·show gRun _ _ _ _ _ z17 (fun st' => Ghost _ _ st' z28)
   rw [ez17, ez28]; simp only [go_sem, seval]; exact dt_can ⟨rfl, rfl, rfl, rfl, rfl, rfl, rfl, trivial⟩ rfl
  ·show gRun _ _ _ _ _ z17 (fun st' => Ghost _ _ st' z29)
   rw [ez17, ez29]; simp only [go_sem, seval]; (try simp only [ed]); exact gD7
  ·show gRun _ _ _ _ _ z18 (fun st' => Ghost _ _ st' z24)
   rw [ez18, ez24]; simp only [go_sem, seval]; exact gD6
  ·show gRun _ _ _ _ _ z18 (fun st' => Ghost _ _ st' z30)
   rw [ez18, ez30]; simp only [go_sem, seval]; refine fcall_src (hN) rfl rfl ?_; simp only [go_sem, seval]; exact dt_can ⟨rfl, rfl, rfl, rfl, rfl, rfl, trivial⟩ rfl
  ·show gRun _ _ _ _ _ z18 (fun st' => Ghost _ _ st' z31)
   rw [ez18, ez31]; simp only [go_sem, seval]; exact gD7
  ·show gRun _ _ _ _ _ z19 (fun st' => Ghost _ _ st' z25)
   rw [ez19, ez25]; simp only [go_sem, seval]; exact gD6
  ·show gRun _ _ _ _ _ z19 (fun st' => Ghost _ _ st' z30)
   rw [ez19, ez30]; simp only [go_sem, seval]; exact gD6
  ·show gRun _ _ _ _ _ z19 (fun st' => Ghost _ _ st' z32)
   rw [ez19, ez32]; simp only [go_sem, seval]; (try simp only [ed]); exact gD6
  ·show gRun _ _ _ _ _ z19 (fun st' => Ghost _ _ st' z33)
   rw [ez19, ez33]; simp only [go_sem, seval]; exact gD7
  ·show gRun _ _ _ _ _ z20 (fun st' => Ghost _ _ st' z26)
   rw [ez20, ez26]; simp only [go_sem, seval]; exact gD7
  ·show gRun _ _ _ _ _ z20 (fun st' => Ghost _ _ st' z31)
   rw [ez20, ez31]; simp only [go_sem, seval]; exact gD7
  ·show gRun _ _ _ _ _ z20 (fun st' => Ghost _ _ st' z33)
   rw [ez20, ez33]; simp only [go_sem, seval]; refine fcall_src (hN) rfl rfl ?_; simp only [go_sem, seval]; exact dt_can ⟨rfl, rfl, rfl, rfl, rfl, rfl, rfl, trivial⟩ rfl
  ·show gRun _ _ _ _ _ z21 (fun st' => Ghost _ _ st' z27)
   rw [ez21, ez27]; simp only [go_sem, seval]; exact gD6
  ·show gRun _ _ _ _ _ z21 (fun st' => Ghost _ _ st' z32)
   rw [ez21, ez32]; simp only [go_sem, seval]; exact gD6
  ·show gRun _ _ _ _ _ z21 (fun st' => Ghost _ _ st' z34)
   rw [ez21, ez34]; simp only [go_sem, seval]; exact gD7
  ·show gRun _ _ _ _ _ z22 (fun st' => Ghost _ _ st' z28)
   rw [ez22, ez28]; simp only [go_sem, seval]; exact gD7
  ·show gRun _ _ _ _ _ z22 (fun st' => Ghost _ _ st' z33)
   rw [ez22, ez33]; simp only [go_sem, seval]; exact gD7
  ·show gRun _ _ _ _ _ z22 (fun st' => Ghost _ _ st' z34)
   rw [ez22, ez34]; simp only [go_sem, seval]; (try simp only [ed]); exact gD7
  ·show gRun _ _ _ _ _ z23 (fun st' => Ghost _ _ st' z29)
   rw [ez23, ez29]; simp only [go_sem, seval]; exact gD7
  ·show gRun _ _ _ _ _ z23 (fun st' => Ghost _ _ st' z34)
   rw [ez23, ez34]; simp only [go_sem, seval]; exact dt_can ⟨rfl, rfl, rfl, rfl, rfl, rfl, rfl, trivial⟩ rfl
  ·show gRun _ _ _ _ _ z24 (fun st' => Ghost _ _ st' z35)
   rw [ez24, ez35]; simp only [go_sem, seval]; refine fcall_src (hN) rfl rfl ?_; simp only [go_sem, seval]; exact dt_can ⟨rfl, rfl, rfl, rfl, rfl, rfl, trivial⟩ rfl
  ·show gRun _ _ _ _ _ z24 (fun st' => Ghost _ _ st' z36)
   rw [ez24, ez36]; simp only [go_sem, seval]; exact gD7
  ·show gRun _ _ _ _ _ z25 (fun st' => Ghost _ _ st' z35)
   rw [ez25, ez35]; simp only [go_sem, seval]; exact gD6
  ·show gRun _ _ _ _ _ z25 (fun st' => Ghost _ _ st' z37)
   rw [ez25, ez37]; simp only [go_sem, seval]; (try simp only [ed]); exact gD6
  ·show gRun _ _ _ _ _ z25 (fun st' => Ghost _ _ st' z38)
   rw [ez25, ez38]; simp only [go_sem, seval]; exact gD7
  ·show gRun _ _ _ _ _ z26 (fun st' => Ghost _ _ st' z36)
   rw [ez26, ez36]; simp only [go_sem, seval]; exact gD7
  ·show gRun _ _ _ _ _ z26 (fun st' => Ghost _ _ st' z38)
   rw [ez26, ez38]; simp only [go_sem, seval]; refine fcall_src (hN) rfl rfl ?_; simp only [go_sem, seval]; exact dt_can ⟨rfl, rfl, rfl, rfl, rfl, rfl, rfl, trivial⟩ rfl
  ·show gRun _ _ _ _ _ z27 (fun st' => Ghost _ _ st' z37)
   rw [ez27, ez37]; simp only [go_sem, seval]; exact gD6
  ·show gRun _ _ _ _ _ z27 (fun st' => Ghost _ _ st' z39)
   rw [ez27, ez39]; simp only [go_sem, seval]; exact gD7
  ·show gRun _ _ _ _ _ z28 (fun st' => Ghost _ _ st' z38)
   rw [ez28, ez38]; simp only [go_sem, seval]; exact gD7
  ·show gRun _ _ _ _ _ z28 (fun st' => Ghost _ _ st' z39)
   rw [ez28, ez39]; simp only [go_sem, seval]; (try simp only [ed]); exact gD7
  ·show gRun _ _ _ _ _ z29 (fun st' => Ghost _ _ st' z39)
   rw [ez29, ez39]; simp only [go_sem, seval]; exact dt_can ⟨rfl, rfl, rfl, rfl, rfl, rfl, rfl, trivial⟩ rfl
  ·show gRun _ _ _ _ _ z30 (fun st' => Ghost _ _ st' z35)
   rw [ez30, ez35]; simp only [go_sem, seval]; exact gD6
  ·show gRun _ _ _ _ _ z30 (fun st' => Ghost _ _ st' z40)
   rw [ez30, ez40]; simp only [go_sem, seval]; (try simp only [ed]); exact gD6
  ·show gRun _ _ _ _ _ z30 (fun st' => Ghost _ _ st' z41)
   rw [ez30, ez41]; simp only [go_sem, seval]; exact gD7
  ·show gRun _ _ _ _ _ z31 (fun st' => Ghost _ _ st' z36)
   rw [ez31, ez36]; simp only [go_sem, seval]; exact gD7
  ·show gRun _ _ _ _ _ z31 (fun st' => Ghost _ _ st' z41)
   rw [ez31, ez41]; simp only [go_sem, seval]; refine fcall_src (hN) rfl rfl ?_; simp only [go_sem, seval]; exact dt_can ⟨rfl, rfl, rfl, rfl, rfl, rfl, rfl, trivial⟩ rfl
  ·show gRun _ _ _ _ _ z32 (fun st' => Ghost _ _ st' z37)
   rw [ez32, ez37]; simp only [go_sem, seval]; exact gD6
  ·show gRun _ _ _ _ _ z32 (fun st' => Ghost _ _ st' z40)
   rw [ez32, ez40]; simp only [go_sem, seval]; exact gD6
  ·show gRun _ _ _ _ _ z32 (fun st' => Ghost _ _ st' z42)
   rw [ez32, ez42]; simp only [go_sem, seval]; exact gD7
  ·show gRun _ _ _ _ _ z33 (fun st' => Ghost _ _ st' z38)
   rw [ez33, ez38]; simp only [go_sem, seval]; exact gD7
  ·show gRun _ _ _ _ _ z33 (fun st' => Ghost _ _ st' z41)
   rw [ez33, ez41]; simp only [go_sem, seval]; exact gD7
  ·show gRun _ _ _ _ _ z33 (fun st' => Ghost _ _ st' z42)
   rw [ez33, ez42]; simp only [go_sem, seval]; (try simp only [ed]); exact gD7
  ·show gRun _ _ _ _ _ z34 (fun st' => Ghost _ _ st' z39)
   rw [ez34, ez39]; simp only [go_sem, seval]; exact gD7
  ·show gRun _ _ _ _ _ z34 (fun st' => Ghost _ _ st' z42)
   rw [ez34, ez42]; simp only [go_sem, seval]; exact gD7
  ·show gRun _ _ _ _ _ z35 (fun st' => Ghost _ _ st' z43)
   rw [ez35, ez43]; simp only [go_sem, seval]; (try simp only [ed]); exact gD6
  ·show gRun _ _ _ _ _ z35 (fun st' => Ghost _ _ st' z44)
   rw [ez35, ez44]; simp only [go_sem, seval]; exact gD7
  ·show gRun _ _ _ _ _ z36 (fun st' => Ghost _ _ st' z44)
   rw [ez36, ez44]; simp only [go_sem, seval]; refine fcall_src (hN) rfl rfl ?_; simp only [go_sem, seval]; exact dt_can ⟨rfl, rfl, rfl, rfl, rfl, rfl, rfl, trivial⟩ rfl
  ·show gRun _ _ _ _ _ z37 (fun st' => Ghost _ _ st' z43)
   rw [ez37, ez43]; simp only [go_sem, seval]; exact gD6
  ·show gRun _ _ _ _ _ z37 (fun st' => Ghost _ _ st' z45)
   rw [ez37, ez45]; simp only [go_sem, seval]; exact gD7
  ·show gRun _ _ _ _ _ z38 (fun st' => Ghost _ _ st' z44)
   rw [ez38, ez44]; simp only [go_sem, seval]; exact gD7
  ·show gRun _ _ _ _ _ z38 (fun st' => Ghost _ _ st' z45)
   rw [ez38, ez45]; simp only [go_sem, seval]; (try simp only [ed]); exact gD7
  ·show gRun _ _ _ _ _ z39 (fun st' => Ghost _ _ st' z45)
   rw [ez39, ez45]; simp only [go_sem, seval]; exact gD7
  ·show gRun _ _ _ _ _ z40 (fun st' => Ghost _ _ st' z43)
   rw [ez40, ez43]; simp only [go_sem, seval]; exact gD6
  ·show gRun _ _ _ _ _ z40 (fun st' => Ghost _ _ st' z46)
   rw [ez40, ez46]; simp only [go_sem, seval]; exact gD5
  ·show gRun _ _ _ _ _ z40 (fun st' => Ghost _ _ st' z47)
   rw [ez40, ez47]; simp only [go_sem, seval]; exact gD7
  ·show gRun _ _ _ _ _ z41 (fun st' => Ghost _ _ st' z44)
   rw [ez41, ez44]; simp only [go_sem, seval]; exact gD7
  ·show gRun _ _ _ _ _ z41 (fun st' => Ghost _ _ st' z47)
   rw [ez41, ez47]; simp only [go_sem, seval]; (try simp only [ed]); exact gD7
  ·show gRun _ _ _ _ _ z42 (fun st' => Ghost _ _ st' z45)
   rw [ez42, ez45]; simp only [go_sem, seval]; exact gD7
  ·show gRun _ _ _ _ _ z42 (fun st' => Ghost _ _ st' z47)
   rw [ez42, ez47]; simp only [go_sem, seval]; exact gD7
  ·show gRun _ _ _ _ _ z43 (fun st' => Ghost _ _ st' z48)
   rw [ez43, ez48]; simp only [go_sem, seval]; exact gD5
  ·show gRun _ _ _ _ _ z43 (fun st' => Ghost _ _ st' z49)
   rw [ez43, ez49]; simp only [go_sem, seval]; exact gD7
  ·show gRun _ _ _ _ _ z44 (fun st' => Ghost _ _ st' z49)
   rw [ez44, ez49]; simp only [go_sem, seval]; (try simp only [ed]); exact gD7
  ·show gRun _ _ _ _ _ z45 (fun st' => Ghost _ _ st' z49)
   rw [ez45, ez49]; simp only [go_sem, seval]; exact gD7
  ·show gRun _ _ _ _ _ z46 (fun st' => Ghost _ _ st' z48)
   rw [ez46, ez48]; simp only [go_sem, seval]; exact gD5
  ·show gRun _ _ _ _ _ z46 (fun st' => Ghost _ _ st' z50)
   rw [ez46, ez50]; simp only [go_sem, seval]; refine fcall_src (hM) rfl rfl ?_; simp only [go_sem, seval]; exact dt_can ⟨rfl, rfl, rfl, rfl, trivial⟩ rfl
  ·show gRun _ _ _ _ _ z46 (fun st' => Ghost _ _ st' z51)
   rw [ez46, ez51]; simp only [go_sem, seval]; exact gD6
  ·show gRun _ _ _ _ _ z47 (fun st' => Ghost _ _ st' z49)
   rw [ez47, ez49]; simp only [go_sem, seval]; exact gD7
  ·show gRun _ _ _ _ _ z47 (fun st' => Ghost _ _ st' z51)
   rw [ez47, ez51]; simp only [go_sem, seval]; exact gD6
  ·show gRun _ _ _ _ _ z48 (fun st' => Ghost _ _ st' z52)
   rw [ez48, ez52]; simp only [go_sem, seval]; refine fcall_src (hM) rfl rfl ?_; simp only [go_sem, seval]; exact dt_can ⟨rfl, rfl, rfl, rfl, trivial⟩ rfl
  ·show gRun _ _ _ _ _ z48 (fun st' => Ghost _ _ st' z53)
   rw [ez48, ez53]; simp only [go_sem, seval]; exact gD6
  ·show gRun _ _ _ _ _ z49 (fun st' => Ghost _ _ st' z53)
   rw [ez49, ez53]; simp only [go_sem, seval]; exact gD6
  ·show gRun _ _ _ _ _ z50 (fun st' => Ghost _ _ st' z52)
   rw [ez50, ez52]; simp only [go_sem, seval]; exact gD4
  ·show gRun _ _ _ _ _ z50 (fun st' => Ghost _ _ st' z54)
   rw [ez50, ez54]; simp only [go_sem, seval]; exact gD5
  ·show gRun _ _ _ _ _ z51 (fun st' => Ghost _ _ st' z53)
   rw [ez51, ez53]; simp only [go_sem, seval]; exact gD6
  ·show gRun _ _ _ _ _ z51 (fun st' => Ghost _ _ st' z54)
   rw [ez51, ez54]; simp only [go_sem, seval]; refine fcall_src (hM) rfl rfl ?_; simp only [go_sem, seval]; exact dt_can ⟨rfl, rfl, rfl, rfl, rfl, trivial⟩ rfl
  ·show gRun _ _ _ _ _ z52 (fun st' => Ghost _ _ st' z55)
   rw [ez52, ez55]; simp only [go_sem, seval]; exact gD5
  ·show gRun _ _ _ _ _ z53 (fun st' => Ghost _ _ st' z55)
   rw [ez53, ez55]; simp only [go_sem, seval]; refine fcall_src (hM) rfl rfl ?_; simp only [go_sem, seval]; exact dt_can ⟨rfl, rfl, rfl, rfl, rfl, trivial⟩ rfl
  ·show gRun _ _ _ _ _ z54 (fun st' => Ghost _ _ st' z55)
   rw [ez54, ez55]; simp only [go_sem, seval]; exact gD5
  ·show gRun _ _ _ _ _ z54 (fun st' => Ghost _ _ st' z56)
   rw [ez54, ez56]; simp only [go_sem, seval]; repeat' (first | exact dt_can ⟨rfl, rfl, rfl, rfl, trivial⟩ rfl | with_reducible refine And.intro ?_ ?_ | omega | (refine fcall_box (hP) (by simp [Aw.ids]) (by simp [find]) (by simp [closedT, killT_e, killAs, killA, outQ, Aw.ids]) (by simp [killAs, killA, outQ, Aw.ids]) (by simp [Aw.ids]) ?_; simp only [Aw.ids, List.map_cons, List.map_nil, List.filter_cons, List.filter_nil, List.contains_cons, List.contains_nil, Bool.or_false, Bool.or_true, Bool.not_true, Bool.not_false, Nat.reduceBEq, Bool.false_eq_true, if_true, if_false, List.cons_append, List.nil_append]; simp only [go_sem, seval]))
  ·show gRun _ _ _ _ _ z55 (fun st' => Ghost _ _ st' z57)
   rw [ez55, ez57]; simp only [go_sem, seval]; repeat' (first | exact dt_can ⟨rfl, rfl, rfl, rfl, trivial⟩ rfl | with_reducible refine And.intro ?_ ?_ | omega | (refine fcall_box (hP) (by simp [Aw.ids]) (by simp [find]) (by simp [closedT, killT_e, killAs, killA, outQ, Aw.ids]) (by simp [killAs, killA, outQ, Aw.ids]) (by simp [Aw.ids]) ?_; simp only [Aw.ids, List.map_cons, List.map_nil, List.filter_cons, List.filter_nil, List.contains_cons, List.contains_nil, Bool.or_false, Bool.or_true, Bool.not_true, Bool.not_false, Nat.reduceBEq, Bool.false_eq_true, if_true, if_false, List.cons_append, List.nil_append]; simp only [go_sem, seval]))
  ·show gRun _ _ _ _ _ z56 (fun st' => Ghost _ _ st' z57)
   rw [ez56, ez57]; simp only [go_sem, seval]; exact gD4
  ·show gRun _ _ _ _ _ z57 (fun st' => Ghost _ _ st' z58)
   rw [ez57, ez58]; simp only [go_sem, seval]; exact gD3
  ·show gRun _ _ _ _ _ z58 (fun st' => Ghost _ _ st' z59)
   rw [ez58, ez59]; simp only [go_sem, seval]; exact dt_can ⟨rfl, rfl, rfl, trivial⟩ rfl
  ·show gRun _ _ _ _ _ z59 (fun st' => Ghost _ _ st' z60)
   rw [ez59, ez60]; simp only [go_sem, seval]; exact dt_can ⟨rfl, rfl, rfl, trivial⟩ rfl
 show ATs _ _ _ _ _ z60
 rw [ez60]
 clear ez0 ez1 ez2 ez3 ez4 ez5 ez6 ez7 ez8 ez9 ez10 ez11 ez12 ez13 ez14 ez15 ez16 ez17 ez18 ez19 ez20 ez21 ez22 ez23 ez24 ez25 ez26 ez27 ez28 ez29 ez30 ez31 ez32 ez33 ez34 ez35 ez36 ez37 ez38 ez39 ez40 ez41 ez42 ez43 ez44 ez45 ez46 ez47 ez48 ez49 ez50 ez51 ez52 ez53 ez54 ez55 ez56 ez57 ez58 ez59 ez60 z0 z1 z2 z3 z4 z5 z6 z7 z8 z9 z10 z11 z12 z13 z14 z15 z16 z17 z18 z19 z20 z21 z22 z23 z24 z25 z26 z27 z28 z29 z30 z31 z32 z33 z34 z35 z36 z37 z38 z39 z40 z41 z42 z43 z44 z45 z46 z47 z48 z49 z50 z51 z52 z53 z54 z55 z56 z57 z58 z59 z60
 exact ats_ret ⟨.inr rfl, .tup [.agg [.l3 t], .int r.1, .int v], by simp only [resL, resA, go_sem, seval], rfl⟩
theorem lbI_mem {s j : Nat} : ∀ {n : Nat}, (j : Int) ∈ lbI n s ↔ j < n ∧ s.testBit j = true
 | 0 => by simp [lbI, lbl]
 | n + 1 => by
  have ih := lbI_mem (s := s) (j := j) (n := n)
  cases hb : s.testBit n with
  | true =>
   rw [← lbI_yes hb, List.mem_append, ih]
   constructor
   ·rintro (h | h)
    ·exact ⟨by omega, h.2⟩
    ·simp only [List.mem_singleton] at h
     obtain rfl : j = n := by omega
     exact ⟨by omega, hb⟩
   ·rintro ⟨h1, h2⟩
    by_cases e : j = n
    ·subst e; right; simp
    ·left; exact ⟨by omega, h2⟩
  | false =>
   rw [← lbI_no hb, ih]
   constructor
   ·rintro ⟨h1, h2⟩; exact ⟨by omega, h2⟩
   ·rintro ⟨h1, h2⟩
    have : j ≠ n := fun e => by rw [e, hb] at h2; exact Bool.false_ne_true h2
    exact ⟨by omega, h2⟩
def allB (u : Nat) : Nat → Bool
 | 0 => true
 | j + 1 => allB u j && u.testBit j
theorem allB_lb {u : Nat} : ∀ {n : Nat}, (lbI n u).length ≤ n ∧ decide ((lbI n u).length = n) = allB u n
 | 0 => ⟨by simp [lbI, lbl], by simp [lbI, lbl, allB]⟩
 | n + 1 => by
  obtain ⟨h1, h2⟩ := allB_lb (u := u) (n := n)
  have e : allB u (n + 1) = (allB u n && u.testBit n) := rfl
  rw [e, ← h2]
  cases hb : u.testBit n with
  | true =>
   rw [← lbI_yes hb, List.length_append, Bool.and_true, decide_eq_decide]
   simp only [List.length_singleton]
   omega
  | false =>
   rw [← lbI_no hb, Bool.and_false]
   exact ⟨by omega, decide_eq_false (by omega)⟩
theorem pureLb {P : Program} {f : FuncId} {ds : List AV} {u : Option (List Int)} {c : Int} (h : PureCall P f ds (.tup [optA u, .int c])) : PureCall P f ds (.tup [.l1 (u.getD []), .int c]) := by
 cases u with
 | none => exact pure_le h (avLe_tup (avsLe_cons avLe_nil1 (avsLe_rfl _)))
 | some u => exact h
theorem boR_form (t : Cu) (i s : Int) : ∃ b : Bd, (boR t i s).1 = bsL b := by
 unfold boR
 split
 ·split
  ·split
   ·exact ⟨_, rfl⟩
   ·exact ⟨⟨0, 0, 0, 0⟩, rfl⟩
  ·exact ⟨⟨0, 0, 0, 0⟩, rfl⟩
 ·exact ⟨⟨0, 0, 0, 0⟩, rfl⟩
set_option maxRecDepth 100000 in
set_option maxHeartbeats 4000000 in
theorem fnBounds_ok (c : List Int) (hb : ByteOk c) : PureCall Try.prog 4 [.lv (bsV c)] (.bool true) := by
 have hbig := big_ok c
 by_cases h4 : 4096 < c.length
 ·rw [decide_eq_true h4] at hbig
  refine PureCall.introR (n := 270) (rs := [.tmp 2]) Try.call4 Try.func4 rfl rfl rfl (by simp only [List.length_cons, List.length_nil]; omega) (fun cx hcx hrd => ats_of ?_); simp only [argSlots, Nat.zero_add, Nat.reduceAdd]
  refine gB ?_
  refine gC fun K hK => ?_
  refine fcall_data (hbig) (by first | rfl | simp only [areData, Aw.isData, areData_bsV, Bool.and_true]) ?_; simp only [go_sem, seval]
  refine hK _ ?_; clear hK K
  (repeat refine ats_seq ?_); refine ats_yes rfl trivial ?_
  refine gB ?_
  refine ats_ret (finB rfl ?_)
  rfl
 have hc : CodeOk c := ⟨by omega, hb⟩
 rw [decide_eq_false h4] at hbig
 obtain ⟨t, i, k, lt, hD⟩ := DrawBoundsOf_ok c hc
 obtain ⟨b, eb⟩ := boR_form t i k
 obtain ⟨e, ee⟩ : ∃ e, (boR t i k).2 = e := ⟨_, rfl⟩
 have k1 := implBo_ok t i k
 have k2 := specBo_ok t i k
 have k3 := pureLb (implWt_ok t k)
 have k4 := pureLb (specWt_ok t k)
 have k5 := specIsR5_ok t
 rw [eb, ee] at k1 k2
 obtain ⟨W, eW⟩ : ∃ W, (wtR t k).1.getD [] = W := ⟨_, rfl⟩
 obtain ⟨e2, ee2⟩ : ∃ e2, (wtR t k).2 = e2 := ⟨_, rfl⟩
 rw [eW, ee2] at k3 k4
 have li := likeInts_ok W W
 rw [decide_eq_true rfl] at li
 have k1 : PureCall Try.prog 21 [.agg [.l3 t], .int i, .int k] (.tup [.agg [.int b.lt, .int b.lb, .int b.ht, .int b.hb], .int e]) := k1
 have k2 : PureCall Try.prog 22 [.agg [.l3 t], .int i, .int k] (.tup [.agg [.int b.lt, .int b.lb, .int b.ht, .int b.hb], .int e]) := k2
 refine PureCall.introR (n := 270) (rs := [.tmp 2]) Try.call4 Try.func4 rfl rfl rfl (by simp only [List.length_cons, List.length_nil]; omega) (fun cx hcx hrd => ats_of ?_); simp only [argSlots, Nat.zero_add, Nat.reduceAdd]
 refine gB ?_
 refine gC fun K hK => ?_
 refine fcall_data (hbig) (by first | rfl | simp only [areData, Aw.isData, areData_bsV, Bool.and_true]) ?_; simp only [go_sem, seval]
 refine hK _ ?_; clear hK K
 (repeat refine ats_seq ?_); refine ats_no rfl trivial ?_
 refine ats_skip ?_
 refine gC fun K hK => ?_
 refine fcall_data (hD) (by first | rfl | simp only [areData, Aw.isData, areData_bsV, Bool.and_true]) ?_; simp only [go_sem, seval]
 refine hK _ ?_; clear hK K
 (repeat refine ats_seq ?_); refine AT.ghost (st' := ⟨[(0, .lv (bsV c)), (2, .bool false), (3, .bptr 5 0), (4, .int i), (5, .int k)], [(5, .bx [.l3 t])]⟩) (ghost_trans (ghost_drop []) (ghost_can [(0, 5)] (by simp only [killL, killA, killAs, killT_srcB, killAs_bsV, qOf, rmT, killH, killT_e, List.filter_cons, List.filter_nil, List.contains_cons, List.contains_nil, Bool.or_false, Bool.or_true, Bool.false_and, Bool.not_true, Bool.not_false, Bool.false_eq_true, if_true, if_false, rnLs, rnL, rn, rns, rns_bsV, sw, SlotsLe, St.get, slotGet, List.map_cons, List.map_nil, seval, AV.int.injEq, AV.bool.injEq, AV.l1.injEq, AV.l2.injEq, AV.l3.injEq, true_and, and_true]) (by simp only [killL, killA, killAs, killT_srcB, killAs_bsV, qOf, rmT, killH, killT_e, List.filter_cons, List.filter_nil, List.contains_cons, List.contains_nil, Bool.or_false, Bool.or_true, Bool.false_and, Bool.not_true, Bool.not_false, Bool.false_eq_true, if_true, if_false, sortH, insH, rnHs, rnH, rnT_e, rnT_srcB, rn, rns, rns_bsV, sw, List.map_cons, List.map_nil, seval]))) ?_
 refine gC fun K hK => ?_
 first | refine fcall_data (k1) rfl ?_ | refine YR_intro (acall_data (k1) rfl) ?_
 simp only [go_sem, seval]
 refine hK _ ?_; clear hK K
 refine gC fun K hK => ?_
 first | refine fcall_data (k2) rfl ?_ | refine YR_intro (acall_data (k2) rfl) ?_
 simp only [go_sem, seval]
 refine hK _ ?_; clear hK K
 refine gC fun K hK => ?_
 refine ⟨by kernel_rfl, ?_⟩
 refine hK _ ?_; clear hK K
 refine gI (fun h1 => ?_) fun h1 => ?_
 ·simp at h1
 clear h1
 refine ats_skip ?_
 (repeat refine ats_seq ?_); refine AT.ghost (st' := ⟨[(2, .bool false), (3, .bptr 5 0), (4, .int i), (5, .int k), (6, .bptr 6 0), (7, .int e)], [(5, .bx [.l3 t]), (6, .bx [.int b.lt, .int b.lb, .int b.ht, .int b.hb])]⟩) (ghost_trans (ghost_drop [7]) (ghost_can [] (by simp only [killL, killA, killAs, killT_srcB, killAs_bsV, qOf, rmT, killH, killT_e, List.filter_cons, List.filter_nil, List.contains_cons, List.contains_nil, Bool.or_false, Bool.or_true, Bool.false_and, Bool.not_true, Bool.not_false, Bool.false_eq_true, if_true, if_false, rnLs, rnL, rn, rns, rns_bsV, sw, SlotsLe, St.get, slotGet, List.map_cons, List.map_nil, seval, AV.int.injEq, AV.bool.injEq, AV.l1.injEq, AV.l2.injEq, AV.l3.injEq, true_and, and_true]) (by simp only [killL, killA, killAs, killT_srcB, killAs_bsV, qOf, rmT, killH, killT_e, List.filter_cons, List.filter_nil, List.contains_cons, List.contains_nil, Bool.or_false, Bool.or_true, Bool.false_and, Bool.not_true, Bool.not_false, Bool.false_eq_true, if_true, if_false, sortH, insH, rnHs, rnH, rnT_e, rnT_srcB, rn, rns, rns_bsV, sw, List.map_cons, List.map_nil, seval]))) ?_
 refine gC fun K hK => ?_
 first | refine fcall_data (k3) rfl ?_ | refine YR_intro (acall_data (k3) rfl) ?_
 simp only [go_sem, seval]
 refine hK _ ?_; clear hK K
 refine gC fun K hK => ?_
 first | refine fcall_data (k4) rfl ?_ | refine YR_intro (acall_data (k4) rfl) ?_
 simp only [go_sem, seval]
 refine hK _ ?_; clear hK K
 refine gC fun K hK => ?_
 first | refine YR_intro (fun _ => acall_free rfl rfl (li)) ?_ | refine YR_intro (acall_free rfl rfl (li)) ?_
 simp only [go_sem, seval]
 refine hK _ ?_; clear hK K
 refine gI (fun h2 => ?_) fun h2 => ?_
 ·simp at h2
 clear h2
 refine ats_skip ?_
 refine gC fun K hK => ?_
 first | refine fcall_data (k5) rfl ?_ | refine YR_intro (acall_data (k5) rfl) ?_
 simp only [go_sem, seval]
 (repeat refine aI (hb := ?_))
 refine hK _ ?_; clear hK K
 cases hr : isRing t with
 | false =>
  have q1 : boR t i k = ([0, 0, 0, 0], 1) := by unfold boR; rw [hr]; rfl
  have q2 : wtR t k = (none, 1) := by unfold wtR; rw [hr]; rfl
  rw [q1] at ee
  rw [q2] at ee2
  have ee : (1 : Int) = e := ee
  have ee2 : (1 : Int) = e2 := ee2
  subst ee ee2
  (repeat refine ats_seq ?_); refine ats_yes rfl trivial ?_
  refine gB ?_
  refine ats_ret (finB rfl ?_)
  rfl
 | true =>
  have h := isRing_P hr
  have hcu := h.cube
  have h16 := hcu.2.1
  have h1n := hcu.1
  have p1 := implPtd_ok t
  have p2 := freshLq (implIl_ok t)
  have eil : ilR t = (some (lbI t.length (unS t)), 0) := by unfold ilR; rw [hr]; rfl
  rw [eil] at p2
  rw [hr] at p1
  obtain ⟨ll, al⟩ := allB_lb (u := unS t) (n := t.length)
  rw [al] at p1
  have al2 : decide (((lbI t.length (unS t)).length : Int) = (t.length : Int)) = allB (unS t) t.length := by
   rw [← al, decide_eq_decide]; omega
  have hm := fun j : Nat => lbI_mem (s := unS t) (j := j) (n := t.length)
  have hinv := fun j (hj : j < t.length) => un_bit (t := t) hj
  generalize unS t = u at *
  obtain ⟨L, eL⟩ : ∃ L, lbI t.length u = L := ⟨_, rfl⟩
  rw [eL] at hm p2 al2 ll
  obtain ⟨B, eB⟩ : ∃ B, allB u t.length = B := ⟨_, rfl⟩
  rw [eB] at p1 al2
  have p1 : PureCall Try.prog 26 [.agg [.l3 t]] (.tup [.bool B, .int 0]) := p1
  have p2 : FreshCall Try.prog 27 [.agg [.l3 t]] (.tup [.l1 L, .int 0]) := p2
  (repeat refine ats_seq ?_); refine ats_no rfl trivial ?_
  refine ats_skip ?_
  refine gC fun K hK => ?_
  first | refine fcall_data (p1) rfl ?_ | refine YR_intro (acall_data (p1) rfl) ?_
  simp only [go_sem, seval]
  refine hK _ ?_; clear hK K
  refine gC fun K hK => ?_
  first | refine fcall_fresh rfl (p2) ?_ | refine YR_intro (acall_fresh rfl (p2)) ?_
  simp only [go_sem, seval]
  refine hK _ ?_; clear hK K
  refine gC fun K hK => ?_
  rw [al2]
  refine hK _ ?_; clear hK K
  refine gI (fun h3 => ?_) fun h3 => ?_
  ·exfalso
   simp at h3
  clear h3
  refine ats_skip ?_
  refine gB ?_
  (repeat refine ats_seq ?_); refine AT.ghost (st' := ⟨[(2, .bool false), (3, .bptr 5 0), (4, .int i), (5, .int k), (6, .bptr 6 0), (7, .int e), (14, .bool B), (16, .l1 L), (18, .bool true)], [(5, .bx [.l3 t]), (6, .bx [.int b.lt, .int b.lb, .int b.ht, .int b.hb])]⟩) (ghost_can [] (by simp only [rnLs, rnL, rn, rns, rns_bsV, sw, SlotsLe, St.get, slotGet, List.map_cons, List.map_nil, seval, AV.int.injEq, AV.bool.injEq, AV.l1.injEq, AV.l2.injEq, AV.l3.injEq, true_and, and_true]) (by simp only [sortH, insH, rnHs, rnH, rnT_e, rnT_srcB, rn, rns, rns_bsV, sw, List.map_cons, List.map_nil, seval])) ?_
  refine gB ?_
  (repeat refine ats_seq ?_); refine ats_loop (fun j : Nat => ⟨[(2, .bool false), (3, .bptr 5 0), (4, .int i), (5, .int k), (6, .bptr 6 0), (7, .int e), (14, .bool B), (16, .l1 L), (18, .bool (allB u j)), (19, .int j)], [(5, .bx [.l3 t]), (6, .bx [.int b.lt, .int b.lb, .int b.ht, .int b.hb])]⟩) (fun j => j ≤ t.length) (fun j => t.length - j) 0 (Nat.zero_le _) (by
   refine And.intro ?_ rfl; simp only [leS, Nat.reduceEqDiff, ↓reduceIte, true_and, and_true]
   first | done | rfl | exact ⟨rfl, rfl⟩) (fun j hj => ?_)
  refine gB ?_
  refine gI (fun hl => ?_) fun hl => ?_
  ·have hjn : j < t.length := by omega
   have n1 := implBo_ok t j (0 : Nat)
   have ok0 : okW t 0 := fun r hr' => absurd hr' (Nat.not_lt_zero r)
   rw [boR_yes hr hjn (by omega) (bd_true ok0)] at n1
   have hon := bs_one h hjn
   have e0 : wtS t 0 = fun _ => 1 := rfl
   rw [e0] at n1
   generalize bsF t j (fun _ => 1) t.length = s at *
   have n1 : PureCall Try.prog 21 [.agg [.l3 t], .int j, .int 0] (.tup [.agg [.int s.lt, .int s.lb, .int s.ht, .int s.hb], .int 0]) := n1
   have hx : (decide (s.lt = s.lb) && decide (s.ht = s.hb)) = u.testBit j := by
    rw [Bool.eq_iff_iff, hinv j hjn, ← hon, Bool.and_eq_true, decide_eq_true_iff, decide_eq_true_iff]
   have hI := hasInt_ok L j
   have hI2 : decide ((j : Int) ∈ L) = u.testBit j := by
    rw [Bool.eq_iff_iff, decide_eq_true_iff, hm j]
    exact ⟨fun h => h.2, fun h => ⟨hjn, h⟩⟩
   rw [hI2] at hI
   have es : allB u (j + 1) = (allB u j && u.testBit j) := rfl
   refine ats_skip ?_
   (repeat refine ats_seq ?_); refine ats_block ?_
   refine gC fun K hK => ?_
   first | refine fcall_data (n1) rfl ?_ | refine YR_intro (acall_data (n1) rfl) ?_
   simp only [go_sem, seval]
   refine hK _ ?_; clear hK K
   refine gB ?_
   (repeat refine ats_seq ?_); refine ats_no rfl trivial ?_
   refine ats_skip ?_
   refine gC fun K hK => ?_
   rw [hx]
   (repeat refine aI (hb := ?_))
   refine hK _ ?_; clear hK K
   refine gC fun K hK => ?_
   first | refine fcall_data (hI) rfl ?_ | refine YR_intro (acall_data (hI) rfl) ?_
   simp only [go_sem, seval]
   (repeat refine aI (hb := ?_))
   refine hK _ ?_; clear hK K
   refine gI (fun h5 => ?_) fun h5 => ?_
   ·simp at h5
   clear h5
   refine ats_skip ?_
   refine gB ?_
   refine gB ?_
   refine ⟨j + 1, by omega, by omega, .inr ⟨[7], by simp only [killL, List.map_cons, List.map_nil, killA, killAs, killT_srcB, killAs_bsV, qOf, rmT, killH, killT_e, List.filter_cons, List.filter_nil, List.contains_cons, List.contains_nil, SlotsLe, St.get, slotGet, Nat.reduceEqDiff, Nat.reduceBEq, Bool.or_false, Bool.or_true, Bool.false_and, Bool.not_true, Bool.not_false, Bool.false_eq_true, ↓reduceIte, if_true, if_false, AV.int.injEq, AV.bool.injEq, AV.l1.injEq, AV.l2.injEq, AV.l3.injEq, true_and, and_true]; (exact ⟨es.symm, by omega⟩), by simp only [killL, List.map_cons, List.map_nil, killA, killAs, killT_srcB, killAs_bsV, qOf, rmT, killH, killT_e, List.filter_cons, List.filter_nil, List.contains_cons, List.contains_nil, SlotsLe, St.get, slotGet, Nat.reduceEqDiff, Nat.reduceBEq, Bool.or_false, Bool.or_true, Bool.false_and, Bool.not_true, Bool.not_false, Bool.false_eq_true, ↓reduceIte, if_true, if_false, AV.int.injEq, AV.bool.injEq, AV.l1.injEq, AV.l2.injEq, AV.l3.injEq, true_and, and_true]; skip⟩⟩
  ·obtain rfl : j = t.length := by omega
   rw [eB]
   refine ats_exit (lq_x ?_)
   refine gB ?_
   refine gI (fun h6 => ?_) fun h6 => ?_
   ·simp at h6
   clear h6
   refine ats_skip ?_
   refine gB ?_
   by_cases he : e = 0
   ·subst he
    obtain ⟨⟨⟨i0, i1⟩, s0, s1⟩, hbd⟩ : ((0 ≤ i ∧ i < t.length) ∧ 0 ≤ k ∧ k ≤ 20) ∧ bd (okW t k.toNat) = true := by
     unfold boR at ee
     rw [hr, if_pos rfl] at ee
     split at ee
     ·rename_i hh
      refine ⟨hh, ?_⟩
      split at ee
      ·rename_i h9; exact h9
      ·exact absurd ee (by decide)
     ·exact absurd ee (by decide)
    obtain ⟨x, rfl⟩ : ∃ x : Nat, i = x := ⟨i.toNat, by omega⟩
    obtain ⟨m, rfl⟩ : ∃ m : Nat, k = m := ⟨k.toNat, by omega⟩
    rw [Int.toNat_natCast] at hbd
    have hxn : x < t.length := by omega
    have okm := bd_iff.1 hbd
    rw [boR_yes hr hxn (by omega) hbd] at eb
    have wge := wtS_ge h m
    have wbd := wtS_WB h okm
    have bo := bs_order (i := x) h1n wge
    have bb := bs_bd hcu wbd hxn t.length (Nat.le_refl _)
    have bdm := fun d (hd : DimF t d) => bs_dim h hd hxn wge
    obtain ⟨b', hb'⟩ : ∃ b', bsF t x (wtS t m) t.length = b' := ⟨_, rfl⟩
    have bnw : ∀ q, m = q + 1 → CommP t → (bsF t x (wtS t q) t.length).lt * (bsF t x (wtS t m) t.length).lb ≤ (bsF t x (wtS t m) t.length).lt * (bsF t x (wtS t q) t.length).lb ∧ (bsF t x (wtS t m) t.length).ht * (bsF t x (wtS t q) t.length).hb ≤ (bsF t x (wtS t q) t.length).ht * (bsF t x (wtS t m) t.length).hb := by
     intro q hq hC; subst hq; exact bs_narrow h hC hxn (wtS_ge h q)
    rw [hb'] at eb bo bb bdm bnw
    have eb : b' = b := by
     cases b; cases b'
     unfold bsL at eb
     simp only [List.cons.injEq, and_true] at eb
     obtain ⟨z1, z2, z3, z4⟩ := eb
     subst z1 z2 z3 z4
     rfl
    subst eb
    obtain ⟨o1, o2, o3⟩ := bo
    obtain ⟨⟨a1, a2⟩, ⟨a3, a4⟩, ⟨a5, a6⟩, a7, a8⟩ := bb
    have m1 := mul16 ⟨a1, a2⟩ ⟨a7, a8⟩
    have m2 := mul16 ⟨a5, a6⟩ ⟨a3, a4⟩
    (repeat refine ats_seq ?_); refine ats_no rfl trivial ?_
    refine ats_skip ?_
    (repeat refine ats_seq ?_); refine AT.ghost (st' := ⟨[(2, .bool false), (3, .bptr 5 0), (4, .int x), (5, .int m), (6, .bptr 6 0)], [(5, .bx [.l3 t]), (6, .bx [.int b'.lt, .int b'.lb, .int b'.ht, .int b'.hb])]⟩) (ghost_can [] (by simp only [rnLs, rnL, rn, rns, rns_bsV, sw, SlotsLe, St.get, slotGet, List.map_cons, List.map_nil, seval, AV.int.injEq, AV.bool.injEq, AV.l1.injEq, AV.l2.injEq, AV.l3.injEq, true_and, and_true]) (by simp only [sortH, insH, rnHs, rnH, rnT_e, rnT_srcB, rn, rns, rns_bsV, sw, List.map_cons, List.map_nil, seval])) ?_
    refine gC fun K hK => ?_
    (repeat refine aI (hb := ?_))
    refine hK _ ?_; clear hK K
    refine gI (fun h7 => ?_) fun h7 => ?_
    ·exfalso
     simp only [Bool.or_eq_true, decide_eq_true_iff] at h7
     omega
    clear h7
    refine ats_skip ?_
    have kd := freshLq (implId_ok t)
    have kc := implCm_ok t
    rw [hr] at kc
    have kc : PureCall Try.prog 29 [.agg [.l3 t]] (.tup [.bool (bd (CommP t)), .int 0]) := kc
    cases hdb : bd (DimP t (dnL t)) with
    | false =>
     have e5 : idR t = (none, 4) := by unfold idR; rw [hr, hdb]; rfl
     rw [e5] at kd
     have kd : FreshCall Try.prog 11 [.agg [.l3 t]] (.tup [.l1 [], .int 4]) := kd
     refine gC fun K hK => ?_
     first | refine fcall_fresh rfl (kd) ?_ | refine YR_intro (acall_fresh rfl (kd)) ?_
     simp only [go_sem, seval]
     refine hK _ ?_; clear hK K
     refine gB ?_
     (repeat refine ats_seq ?_); refine ats_no rfl trivial ?_
     refine gB ?_
     (repeat refine ats_seq ?_); refine ats_no rfl trivial ?_
     refine ats_skip ?_
     refine gC fun K hK => ?_
     first | refine fcall_data (kc) rfl ?_ | refine YR_intro (acall_data (kc) rfl) ?_
     simp only [go_sem, seval]
     refine hK _ ?_; clear hK K
     cases hC : bd (CommP t) with
     | false =>
      refine gC fun K hK => ?_
      (repeat refine aI (hb := ?_))
      refine hK _ ?_; clear hK K
      (repeat refine ats_seq ?_); refine ats_yes rfl trivial ?_
      refine gB ?_
      refine ats_ret (finB rfl ?_)
      rfl
     | true =>
      have hCP := bd_iff.1 hC
      by_cases hm0 : m = 0
      ·subst hm0
       refine gC fun K hK => ?_
       (repeat refine aI (hb := ?_))
       refine hK _ ?_; clear hK K
       (repeat refine ats_seq ?_); refine ats_yes rfl trivial ?_
       refine gB ?_
       refine ats_ret (finB rfl ?_)
       rfl
      ·obtain ⟨q, rfl⟩ : ∃ q, m = q + 1 := ⟨m - 1, by omega⟩
       have hno : ¬ ((q + 1 : Nat) : Int) = 0 := by omega
       have n1 := implBo_ok t x (q : Nat)
       rw [boR_yes hr hxn (by omega) (bd_true (okW_mono okm (Nat.le_succ q)))] at n1
       have nw := bnw q rfl hCP
       have bb := bs_bd hcu (wtS_WB h (okW_mono okm (Nat.le_succ q))) hxn t.length (Nat.le_refl _)
       generalize bsF t x (wtS t q) t.length = s at *
       obtain ⟨⟨c1, c2⟩, ⟨c3, c4⟩, ⟨c5, c6⟩, c7, c8⟩ := bb
       have r1 := mul16 ⟨c1, c2⟩ ⟨a3, a4⟩
       have r2 := mul16 ⟨a1, a2⟩ ⟨c3, c4⟩
       have r3 := mul16 ⟨c5, c6⟩ ⟨a7, a8⟩
       have r4 := mul16 ⟨a5, a6⟩ ⟨c7, c8⟩
       have n1 : PureCall Try.prog 21 [.agg [.l3 t], .int x, .int (((q + 1 : Nat) : Int) - 1)] (.tup [.agg [.int s.lt, .int s.lb, .int s.ht, .int s.hb], .int 0]) := by
        rw [show ((q + 1 : Nat) : Int) - 1 = (q : Nat) by omega]
        exact n1
       refine gC fun K hK => ?_
       rw [decide_eq_false hno]
       (repeat refine aI (hb := ?_))
       refine hK _ ?_; clear hK K
       (repeat refine ats_seq ?_); refine ats_no rfl trivial ?_
       refine ats_skip ?_
       refine gC fun K hK => ?_
       (repeat refine aI (hb := ?_))
       first | refine fcall_data (n1) rfl ?_ | refine YR_intro (acall_data (n1) rfl) ?_
       simp only [go_sem, seval]
       refine hK _ ?_; clear hK K
       refine gC fun K hK => ?_
       (repeat refine aI (hb := ?_))
       refine hK _ ?_; clear hK K
       rw [decide_eq_true nw.1, decide_eq_true nw.2]
       refine ats_ret (finB rfl ?_)
       rfl
    | true =>
     have e5 : idR t = (some (dnL t), 0) := by unfold idR; rw [hr, hdb]; rfl
     rw [e5] at kd
     have hDP := bd_iff.1 hdb
     have hLb := dnL_bd h
     obtain ⟨D, eD⟩ : ∃ D, dnL t = D := ⟨_, rfl⟩
     rw [eD] at hDP hLb
     have kd : FreshCall Try.prog 11 [.agg [.l3 t]] (.tup [.l1 D, .int 0]) := by rw [← eD]; exact kd
     have hDF : DimF t (fun k => D.getD k 0) := ⟨hDP.1, hDP.2⟩
     have bd2 := bdm _ hDF
     have lD := hLb.1
     have dx := hLb.2 x hxn
     have bd2 : b'.lt ≤ D.getD x 0 * b'.lb ∧ D.getD x 0 * b'.hb ≤ b'.ht := bd2
     have g1 := mul16 (a := D.getD x 0) (b := b'.lb) (by omega) ⟨a3, a4⟩
     have g2 := mul16 (a := D.getD x 0) (b := b'.hb) (by omega) ⟨a7, a8⟩
     refine gC fun K hK => ?_
     first | refine fcall_fresh rfl (kd) ?_ | refine YR_intro (acall_fresh rfl (kd)) ?_
     simp only [go_sem, seval]
     refine hK _ ?_; clear hK K
     refine gB ?_
     (repeat refine ats_seq ?_); refine ats_yes rfl trivial ?_
     have z1 : decide ((D.length : Int) = (t.length : Int)) = true := decide_eq_true (by omega)
     have z2 : decide (D.getD x 0 * b'.lb < b'.lt) = false := decide_eq_false (by omega)
     have z3 : decide (b'.ht < D.getD x 0 * b'.hb) = false := decide_eq_false (by omega)
     (repeat refine ats_seq ?_); refine ats_pick (fix0 hcx) mixed (by kernel_rfl) fun K hK => ?_; simp only [go_sem, seval]
     simp only [z1, z2, z3, Bool.not_true, Bool.false_or, Bool.not_false]
     (repeat refine aI (hb := ?_))
     refine hK _ ?_; clear hK K
     (repeat refine ats_seq ?_); refine ats_no rfl trivial ?_
     refine ats_skip ?_
     refine gC fun K hK => ?_
     first | refine fcall_data (kc) rfl ?_ | refine YR_intro (acall_data (kc) rfl) ?_
     simp only [go_sem, seval]
     refine hK _ ?_; clear hK K
     cases hC : bd (CommP t) with
     | false =>
      refine gC fun K hK => ?_
      (repeat refine aI (hb := ?_))
      refine hK _ ?_; clear hK K
      (repeat refine ats_seq ?_); refine ats_yes rfl trivial ?_
      refine gB ?_
      refine ats_ret (finB rfl ?_)
      rfl
     | true =>
      have hCP := bd_iff.1 hC
      by_cases hm0 : m = 0
      ·subst hm0
       refine gC fun K hK => ?_
       (repeat refine aI (hb := ?_))
       refine hK _ ?_; clear hK K
       (repeat refine ats_seq ?_); refine ats_yes rfl trivial ?_
       refine gB ?_
       refine ats_ret (finB rfl ?_)
       rfl
      ·obtain ⟨q, rfl⟩ : ∃ q, m = q + 1 := ⟨m - 1, by omega⟩
       have hno : ¬ ((q + 1 : Nat) : Int) = 0 := by omega
       have n1 := implBo_ok t x (q : Nat)
       rw [boR_yes hr hxn (by omega) (bd_true (okW_mono okm (Nat.le_succ q)))] at n1
       have nw := bnw q rfl hCP
       have bb := bs_bd hcu (wtS_WB h (okW_mono okm (Nat.le_succ q))) hxn t.length (Nat.le_refl _)
       generalize bsF t x (wtS t q) t.length = s at *
       obtain ⟨⟨c1, c2⟩, ⟨c3, c4⟩, ⟨c5, c6⟩, c7, c8⟩ := bb
       have r1 := mul16 ⟨c1, c2⟩ ⟨a3, a4⟩
       have r2 := mul16 ⟨a1, a2⟩ ⟨c3, c4⟩
       have r3 := mul16 ⟨c5, c6⟩ ⟨a7, a8⟩
       have r4 := mul16 ⟨a5, a6⟩ ⟨c7, c8⟩
       have n1 : PureCall Try.prog 21 [.agg [.l3 t], .int x, .int (((q + 1 : Nat) : Int) - 1)] (.tup [.agg [.int s.lt, .int s.lb, .int s.ht, .int s.hb], .int 0]) := by
        rw [show ((q + 1 : Nat) : Int) - 1 = (q : Nat) by omega]
        exact n1
       refine gC fun K hK => ?_
       rw [decide_eq_false hno]
       (repeat refine aI (hb := ?_))
       refine hK _ ?_; clear hK K
       (repeat refine ats_seq ?_); refine ats_no rfl trivial ?_
       refine ats_skip ?_
       refine gC fun K hK => ?_
       (repeat refine aI (hb := ?_))
       first | refine fcall_data (n1) rfl ?_ | refine YR_intro (acall_data (n1) rfl) ?_
       simp only [go_sem, seval]
       refine hK _ ?_; clear hK K
       refine gC fun K hK => ?_
       (repeat refine aI (hb := ?_))
       refine hK _ ?_; clear hK K
       rw [decide_eq_true nw.1, decide_eq_true nw.2]
       refine ats_ret (finB rfl ?_)
       rfl
   ·refine gI (fun h7 => ?_) fun h7 => ?_
    ·refine gB ?_
     refine ats_ret (finB rfl ?_)
     rfl
    ·exact absurd h7 (by omega)
end Go.Proofs.Ytjcfefgbieeheaa
