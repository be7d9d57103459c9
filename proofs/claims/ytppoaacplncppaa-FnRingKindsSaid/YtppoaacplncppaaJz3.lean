import Derived.Test.YtppoaacplncppaaJz2
set_option linter.unusedSimpArgs false
set_option linter.unusedVariables false
namespace Go.Proofs.Ytppoaacplncppaa
open Go Go.Aw Go.Pl
def dvL : Nat → List Int → Src → List Int × Src
 | 0, o, s => (o, s)
 | k + 1, o, s => dvL k (o ++ [[0, 0, 1, 1, 2, (nx s 1000).1].getD (nx (nx s 1000).2 6).1.toNat 0]) (nx (nx s 1000).2 6).2
def dVec (n : Nat) (s : Src) : List Int × Src :=
 if (nx (dvL n [] s).2 40).1 = 0 then ((dvL n [] s).1 ++ [1], (nx (dvL n [] s).2 40).2)
 else if (nx (dvL n [] s).2 40).1 = 1 ∧ 0 < n then ((dvL n [] s).1.set 0 ([-1, 1000001].getD (nx (nx (dvL n [] s).2 40).2 2).1.toNat 0), (nx (nx (dvL n [] s).2 40).2 2).2)
 else ((dvL n [] s).1, (nx (dvL n [] s).2 40).2)
end Go.Proofs.Ytppoaacplncppaa
namespace Go.Proofs.Ytppoaacplncppaa
open Go Go.Aw Go.Pl
attribute [local go_sem] pickO List.getElem?_toArray List.getElem?_cons_zero List.getElem?_cons_succ Option.getD_some and_true true_and and_self
structure CodeOk (c : List Int) : Prop where
 len : c.length ≤ 1048576
 byte : ∀ i, i < c.length → 0 ≤ c.getD i 0 ∧ c.getD i 0 ≤ 255
set_option maxRecDepth 100000 in
set_option maxHeartbeats 4000000 in
theorem DrawPowerOfLabel_ok (c : List Int) (hc : CodeOk c) : ∃ (t : Cu) (i k : Int), t.length ≤ 8 ∧ PureCall Try.prog 18 [.lv (bsV c)] (.tup [.agg [.l3 t], .int i, .int k]) := by
 have hF := from_ok c hc.len hc.byte
 have ok0 := frS_ok hc.len hc.byte
 generalize frS c = s at *
 obtain ⟨t, s1, lt, ok1, hA⟩ := l03DrawAny_ok s ok0 8 (by decide) (by decide)
 have hN := next_ok s1 ok1 24 (by omega)
 have b1 := nx_bd s1 (n := 24) (by omega)
 have ok2 := nx_ok ok1 24
 generalize nx s1 24 = q at *
 have ed : q.1.tdiv 23 = q.1 / 23 := Int.tdiv_eq_ediv_of_nonneg (by omega)
 have hM := next_ok q.2 ok2 (t.length + q.1 / 23) (by omega)
 have ok3 := nx_ok ok2 (t.length + q.1 / 23)
 generalize nx q.2 (t.length + q.1 / 23) = r at *
 have hP := pick9_ok r.2 ok3 [0, 1, 2, 3, 4, 6, 9, 40, 41, -1] (by decide) (by decide)
 rw [show (([0, 1, 2, 3, 4, 6, 9, 40, 41, -1] : List Int).length : Int) = 10 from rfl] at hP
 have ok4 := nx_ok ok3 10
 generalize nx r.2 10 = p at *
 obtain ⟨v, ev⟩ : ∃ v, ([0, 1, 2, 3, 4, 6, 9, 40, 41, -1] : List Int).getD p.1.toNat 0 = v := ⟨_, rfl⟩
 rw [ev] at hP
 clear ev
 refine ⟨t, r.1, v, lt, ?_⟩
 unfold AnyC at hA
 refine PureCall.introR (n := 24) (rs := [.cell 2 26, .tmp 3, .tmp 4]) Try.call18 Try.func18 rfl rfl rfl (by simp only [List.length_cons, List.length_nil]; omega) (fun cx hcx hrd => ats_of ?_); simp only [argSlots, Nat.zero_add, Nat.reduceAdd]
 (repeat refine ats_seq ?_); refine ats_go (fix0 hcx) fun K hK => ?_; simp only [go_sem, seval]; (repeat refine aI (hb := ?_)); refine hK _ ?_; clear hK K
 (repeat refine ats_seq ?_); refine AT.ghost (st' := ⟨[(0, .lv (bsV c)), (2, .bptr 7 0), (3, .int 0), (4, .int 0)], [(7, .bx [.nil])]⟩) (ghost_to [] [(0, 7)]) ?_
 (repeat refine ats_seq ?_); refine ats_go (fix0 hcx) fun K hK => ?_; simp only [go_sem, seval]
 refine fcall_bx (hF) (k := ?_); simp only [Aw.ids, go_sem, seval]
 refine hK _ ?_; clear hK K
 (repeat refine ats_seq ?_); refine ats_go (fix0 hcx) fun K hK => ?_; simp only [go_sem, seval]
 refine fcall_bx (hA) (k := ?_); simp only [Aw.ids, go_sem, seval]
 refine hK _ ?_; clear hK K
 (repeat refine ats_seq ?_); refine AT.ghost (st' := ⟨[(2, .bptr 7 0), (3, .int 0), (4, .int 0), (5, .bptr 0 0), (6, .bptr 8 0)], [(0, srcB s1), (7, .bx [.nil]), (8, .bx [.l3 t])]⟩) (ghost_to [1] []) ?_
 (repeat refine ats_seq ?_)
 obtain ⟨z0, ez0⟩ : ∃ z : St, z = ⟨[(2, .bptr 7 0), (6, .bptr 8 0), (12, .bptr 0 0), (16, .bptr 0 0), (21, .bptr 0 0)], [(0, srcB s1), (7, .bx [.nil]), (8, .bx [.l3 t])]⟩ := ⟨_, rfl⟩
 obtain ⟨z1, ez1⟩ : ∃ z : St, z = ⟨[(2, .bptr 7 0), (6, .bptr 8 0), (11, .agg [.l3 t]), (12, .bptr 0 0), (16, .bptr 0 0), (21, .bptr 0 0)], [(0, srcB s1), (7, .bx [.nil]), (8, .bx [.l3 t])]⟩ := ⟨_, rfl⟩
 obtain ⟨z2, ez2⟩ : ∃ z : St, z = ⟨[(2, .bptr 7 0), (6, .bptr 8 0), (12, .bptr 0 0), (13, .bptr 8 0), (16, .bptr 0 0), (21, .bptr 0 0)], [(0, srcB s1), (7, .bx [.nil]), (8, .bx [.l3 t])]⟩ := ⟨_, rfl⟩
 obtain ⟨z3, ez3⟩ : ∃ z : St, z = ⟨[(2, .bptr 7 0), (6, .bptr 8 0), (12, .bptr 0 0), (17, .int q.1), (21, .bptr 0 0)], [(0, srcB q.2), (7, .bx [.nil]), (8, .bx [.l3 t])]⟩ := ⟨_, rfl⟩
 obtain ⟨z4, ez4⟩ : ∃ z : St, z = ⟨[(2, .bptr 7 0), (6, .bptr 8 0), (12, .bptr 0 0), (16, .bptr 0 0), (21, .bptr 0 0), (22, .ref 9 [])], [(0, srcB s1), (7, .bx [.nil]), (8, .bx [.l3 t]), (9, .t1 [0, 1, 2, 3, 4, 6, 9, 40, 41, -1])]⟩ := ⟨_, rfl⟩
 obtain ⟨z5, ez5⟩ : ∃ z : St, z = ⟨[(2, .bptr 7 0), (11, .agg [.l3 t]), (12, .bptr 0 0), (13, .bptr 8 0), (16, .bptr 0 0), (21, .bptr 0 0)], [(0, srcB s1), (7, .bx [.nil]), (8, .bx [.l3 t])]⟩ := ⟨_, rfl⟩
 obtain ⟨z6, ez6⟩ : ∃ z : St, z = ⟨[(2, .bptr 7 0), (6, .bptr 8 0), (11, .agg [.l3 t]), (12, .bptr 0 0), (17, .int q.1), (21, .bptr 0 0)], [(0, srcB q.2), (7, .bx [.nil]), (8, .bx [.l3 t])]⟩ := ⟨_, rfl⟩
 obtain ⟨z7, ez7⟩ : ∃ z : St, z = ⟨[(2, .bptr 7 0), (6, .bptr 8 0), (11, .agg [.l3 t]), (12, .bptr 0 0), (16, .bptr 0 0), (21, .bptr 0 0), (22, .ref 9 [])], [(0, srcB s1), (7, .bx [.nil]), (8, .bx [.l3 t]), (9, .t1 [0, 1, 2, 3, 4, 6, 9, 40, 41, -1])]⟩ := ⟨_, rfl⟩
 obtain ⟨z8, ez8⟩ : ∃ z : St, z = ⟨[(2, .bptr 7 0), (6, .bptr 8 0), (12, .bptr 0 0), (14, .l3 t), (16, .bptr 0 0), (21, .bptr 0 0)], [(0, srcB s1), (7, .bx [.nil]), (8, .bx [.l3 t])]⟩ := ⟨_, rfl⟩
 obtain ⟨z9, ez9⟩ : ∃ z : St, z = ⟨[(2, .bptr 7 0), (6, .bptr 8 0), (12, .bptr 0 0), (13, .bptr 8 0), (17, .int q.1), (21, .bptr 0 0)], [(0, srcB q.2), (7, .bx [.nil]), (8, .bx [.l3 t])]⟩ := ⟨_, rfl⟩
 obtain ⟨z10, ez10⟩ : ∃ z : St, z = ⟨[(2, .bptr 7 0), (6, .bptr 8 0), (12, .bptr 0 0), (13, .bptr 8 0), (16, .bptr 0 0), (21, .bptr 0 0), (22, .ref 9 [])], [(0, srcB s1), (7, .bx [.nil]), (8, .bx [.l3 t]), (9, .t1 [0, 1, 2, 3, 4, 6, 9, 40, 41, -1])]⟩ := ⟨_, rfl⟩
 obtain ⟨z11, ez11⟩ : ∃ z : St, z = ⟨[(2, .bptr 7 0), (6, .bptr 8 0), (12, .bptr 0 0), (18, .int (q.1 / 23)), (21, .bptr 0 0)], [(0, srcB q.2), (7, .bx [.nil]), (8, .bx [.l3 t])]⟩ := ⟨_, rfl⟩
 obtain ⟨z12, ez12⟩ : ∃ z : St, z = ⟨[(2, .bptr 7 0), (6, .bptr 8 0), (12, .bptr 0 0), (17, .int q.1), (21, .bptr 0 0), (22, .ref 9 [])], [(0, srcB q.2), (7, .bx [.nil]), (8, .bx [.l3 t]), (9, .t1 [0, 1, 2, 3, 4, 6, 9, 40, 41, -1])]⟩ := ⟨_, rfl⟩
 obtain ⟨z13, ez13⟩ : ∃ z : St, z = ⟨[(2, .bptr 7 0), (11, .agg [.l3 t]), (12, .bptr 0 0), (14, .l3 t), (16, .bptr 0 0), (21, .bptr 0 0)], [(0, srcB s1), (7, .bx [.nil]), (8, .bx [.l3 t])]⟩ := ⟨_, rfl⟩
 obtain ⟨z14, ez14⟩ : ∃ z : St, z = ⟨[(2, .bptr 7 0), (11, .agg [.l3 t]), (12, .bptr 0 0), (13, .bptr 8 0), (17, .int q.1), (21, .bptr 0 0)], [(0, srcB q.2), (7, .bx [.nil]), (8, .bx [.l3 t])]⟩ := ⟨_, rfl⟩
 obtain ⟨z15, ez15⟩ : ∃ z : St, z = ⟨[(2, .bptr 7 0), (11, .agg [.l3 t]), (12, .bptr 0 0), (13, .bptr 8 0), (16, .bptr 0 0), (21, .bptr 0 0), (22, .ref 9 [])], [(0, srcB s1), (7, .bx [.nil]), (8, .bx [.l3 t]), (9, .t1 [0, 1, 2, 3, 4, 6, 9, 40, 41, -1])]⟩ := ⟨_, rfl⟩
 obtain ⟨z16, ez16⟩ : ∃ z : St, z = ⟨[(2, .bptr 7 0), (6, .bptr 8 0), (11, .agg [.l3 t]), (12, .bptr 0 0), (18, .int (q.1 / 23)), (21, .bptr 0 0)], [(0, srcB q.2), (7, .bx [.nil]), (8, .bx [.l3 t])]⟩ := ⟨_, rfl⟩
 obtain ⟨z17, ez17⟩ : ∃ z : St, z = ⟨[(2, .bptr 7 0), (6, .bptr 8 0), (11, .agg [.l3 t]), (12, .bptr 0 0), (17, .int q.1), (21, .bptr 0 0), (22, .ref 9 [])], [(0, srcB q.2), (7, .bx [.nil]), (8, .bx [.l3 t]), (9, .t1 [0, 1, 2, 3, 4, 6, 9, 40, 41, -1])]⟩ := ⟨_, rfl⟩
 obtain ⟨z18, ez18⟩ : ∃ z : St, z = ⟨[(2, .bptr 7 0), (6, .bptr 8 0), (12, .bptr 0 0), (15, .int t.length), (16, .bptr 0 0), (21, .bptr 0 0)], [(0, srcB s1), (7, .bx [.nil]), (8, .bx [.l3 t])]⟩ := ⟨_, rfl⟩
 obtain ⟨z19, ez19⟩ : ∃ z : St, z = ⟨[(2, .bptr 7 0), (6, .bptr 8 0), (12, .bptr 0 0), (14, .l3 t), (17, .int q.1), (21, .bptr 0 0)], [(0, srcB q.2), (7, .bx [.nil]), (8, .bx [.l3 t])]⟩ := ⟨_, rfl⟩
 obtain ⟨z20, ez20⟩ : ∃ z : St, z = ⟨[(2, .bptr 7 0), (6, .bptr 8 0), (12, .bptr 0 0), (14, .l3 t), (16, .bptr 0 0), (21, .bptr 0 0), (22, .ref 9 [])], [(0, srcB s1), (7, .bx [.nil]), (8, .bx [.l3 t]), (9, .t1 [0, 1, 2, 3, 4, 6, 9, 40, 41, -1])]⟩ := ⟨_, rfl⟩
 obtain ⟨z21, ez21⟩ : ∃ z : St, z = ⟨[(2, .bptr 7 0), (6, .bptr 8 0), (12, .bptr 0 0), (13, .bptr 8 0), (18, .int (q.1 / 23)), (21, .bptr 0 0)], [(0, srcB q.2), (7, .bx [.nil]), (8, .bx [.l3 t])]⟩ := ⟨_, rfl⟩
 obtain ⟨z22, ez22⟩ : ∃ z : St, z = ⟨[(2, .bptr 7 0), (6, .bptr 8 0), (12, .bptr 0 0), (13, .bptr 8 0), (17, .int q.1), (21, .bptr 0 0), (22, .ref 9 [])], [(0, srcB q.2), (7, .bx [.nil]), (8, .bx [.l3 t]), (9, .t1 [0, 1, 2, 3, 4, 6, 9, 40, 41, -1])]⟩ := ⟨_, rfl⟩
 obtain ⟨z23, ez23⟩ : ∃ z : St, z = ⟨[(2, .bptr 7 0), (6, .bptr 8 0), (12, .bptr 0 0), (18, .int (q.1 / 23)), (21, .bptr 0 0), (22, .ref 9 [])], [(0, srcB q.2), (7, .bx [.nil]), (8, .bx [.l3 t]), (9, .t1 [0, 1, 2, 3, 4, 6, 9, 40, 41, -1])]⟩ := ⟨_, rfl⟩
 obtain ⟨z24, ez24⟩ : ∃ z : St, z = ⟨[(2, .bptr 7 0), (11, .agg [.l3 t]), (12, .bptr 0 0), (15, .int t.length), (16, .bptr 0 0), (21, .bptr 0 0)], [(0, srcB s1), (7, .bx [.nil]), (8, .bx [.l3 t])]⟩ := ⟨_, rfl⟩
 obtain ⟨z25, ez25⟩ : ∃ z : St, z = ⟨[(2, .bptr 7 0), (11, .agg [.l3 t]), (12, .bptr 0 0), (14, .l3 t), (17, .int q.1), (21, .bptr 0 0)], [(0, srcB q.2), (7, .bx [.nil]), (8, .bx [.l3 t])]⟩ := ⟨_, rfl⟩
 obtain ⟨z26, ez26⟩ : ∃ z : St, z = ⟨[(2, .bptr 7 0), (11, .agg [.l3 t]), (12, .bptr 0 0), (14, .l3 t), (16, .bptr 0 0), (21, .bptr 0 0), (22, .ref 9 [])], [(0, srcB s1), (7, .bx [.nil]), (8, .bx [.l3 t]), (9, .t1 [0, 1, 2, 3, 4, 6, 9, 40, 41, -1])]⟩ := ⟨_, rfl⟩
 obtain ⟨z27, ez27⟩ : ∃ z : St, z = ⟨[(2, .bptr 7 0), (11, .agg [.l3 t]), (12, .bptr 0 0), (13, .bptr 8 0), (18, .int (q.1 / 23)), (21, .bptr 0 0)], [(0, srcB q.2), (7, .bx [.nil]), (8, .bx [.l3 t])]⟩ := ⟨_, rfl⟩
 obtain ⟨z28, ez28⟩ : ∃ z : St, z = ⟨[(2, .bptr 7 0), (11, .agg [.l3 t]), (12, .bptr 0 0), (13, .bptr 8 0), (17, .int q.1), (21, .bptr 0 0), (22, .ref 9 [])], [(0, srcB q.2), (7, .bx [.nil]), (8, .bx [.l3 t]), (9, .t1 [0, 1, 2, 3, 4, 6, 9, 40, 41, -1])]⟩ := ⟨_, rfl⟩
 obtain ⟨z29, ez29⟩ : ∃ z : St, z = ⟨[(2, .bptr 7 0), (6, .bptr 8 0), (11, .agg [.l3 t]), (12, .bptr 0 0), (18, .int (q.1 / 23)), (21, .bptr 0 0), (22, .ref 9 [])], [(0, srcB q.2), (7, .bx [.nil]), (8, .bx [.l3 t]), (9, .t1 [0, 1, 2, 3, 4, 6, 9, 40, 41, -1])]⟩ := ⟨_, rfl⟩
 obtain ⟨z30, ez30⟩ : ∃ z : St, z = ⟨[(2, .bptr 7 0), (6, .bptr 8 0), (12, .bptr 0 0), (15, .int t.length), (17, .int q.1), (21, .bptr 0 0)], [(0, srcB q.2), (7, .bx [.nil]), (8, .bx [.l3 t])]⟩ := ⟨_, rfl⟩
 obtain ⟨z31, ez31⟩ : ∃ z : St, z = ⟨[(2, .bptr 7 0), (6, .bptr 8 0), (12, .bptr 0 0), (15, .int t.length), (16, .bptr 0 0), (21, .bptr 0 0), (22, .ref 9 [])], [(0, srcB s1), (7, .bx [.nil]), (8, .bx [.l3 t]), (9, .t1 [0, 1, 2, 3, 4, 6, 9, 40, 41, -1])]⟩ := ⟨_, rfl⟩
 obtain ⟨z32, ez32⟩ : ∃ z : St, z = ⟨[(2, .bptr 7 0), (6, .bptr 8 0), (12, .bptr 0 0), (14, .l3 t), (18, .int (q.1 / 23)), (21, .bptr 0 0)], [(0, srcB q.2), (7, .bx [.nil]), (8, .bx [.l3 t])]⟩ := ⟨_, rfl⟩
 obtain ⟨z33, ez33⟩ : ∃ z : St, z = ⟨[(2, .bptr 7 0), (6, .bptr 8 0), (12, .bptr 0 0), (14, .l3 t), (17, .int q.1), (21, .bptr 0 0), (22, .ref 9 [])], [(0, srcB q.2), (7, .bx [.nil]), (8, .bx [.l3 t]), (9, .t1 [0, 1, 2, 3, 4, 6, 9, 40, 41, -1])]⟩ := ⟨_, rfl⟩
 obtain ⟨z34, ez34⟩ : ∃ z : St, z = ⟨[(2, .bptr 7 0), (6, .bptr 8 0), (12, .bptr 0 0), (13, .bptr 8 0), (18, .int (q.1 / 23)), (21, .bptr 0 0), (22, .ref 9 [])], [(0, srcB q.2), (7, .bx [.nil]), (8, .bx [.l3 t]), (9, .t1 [0, 1, 2, 3, 4, 6, 9, 40, 41, -1])]⟩ := ⟨_, rfl⟩
 obtain ⟨z35, ez35⟩ : ∃ z : St, z = ⟨[(2, .bptr 7 0), (11, .agg [.l3 t]), (12, .bptr 0 0), (15, .int t.length), (17, .int q.1), (21, .bptr 0 0)], [(0, srcB q.2), (7, .bx [.nil]), (8, .bx [.l3 t])]⟩ := ⟨_, rfl⟩
 obtain ⟨z36, ez36⟩ : ∃ z : St, z = ⟨[(2, .bptr 7 0), (11, .agg [.l3 t]), (12, .bptr 0 0), (15, .int t.length), (16, .bptr 0 0), (21, .bptr 0 0), (22, .ref 9 [])], [(0, srcB s1), (7, .bx [.nil]), (8, .bx [.l3 t]), (9, .t1 [0, 1, 2, 3, 4, 6, 9, 40, 41, -1])]⟩ := ⟨_, rfl⟩
 obtain ⟨z37, ez37⟩ : ∃ z : St, z = ⟨[(2, .bptr 7 0), (11, .agg [.l3 t]), (12, .bptr 0 0), (14, .l3 t), (18, .int (q.1 / 23)), (21, .bptr 0 0)], [(0, srcB q.2), (7, .bx [.nil]), (8, .bx [.l3 t])]⟩ := ⟨_, rfl⟩
 obtain ⟨z38, ez38⟩ : ∃ z : St, z = ⟨[(2, .bptr 7 0), (11, .agg [.l3 t]), (12, .bptr 0 0), (14, .l3 t), (17, .int q.1), (21, .bptr 0 0), (22, .ref 9 [])], [(0, srcB q.2), (7, .bx [.nil]), (8, .bx [.l3 t]), (9, .t1 [0, 1, 2, 3, 4, 6, 9, 40, 41, -1])]⟩ := ⟨_, rfl⟩
 obtain ⟨z39, ez39⟩ : ∃ z : St, z = ⟨[(2, .bptr 7 0), (11, .agg [.l3 t]), (12, .bptr 0 0), (13, .bptr 8 0), (18, .int (q.1 / 23)), (21, .bptr 0 0), (22, .ref 9 [])], [(0, srcB q.2), (7, .bx [.nil]), (8, .bx [.l3 t]), (9, .t1 [0, 1, 2, 3, 4, 6, 9, 40, 41, -1])]⟩ := ⟨_, rfl⟩
 obtain ⟨z40, ez40⟩ : ∃ z : St, z = ⟨[(2, .bptr 7 0), (6, .bptr 8 0), (12, .bptr 0 0), (15, .int t.length), (18, .int (q.1 / 23)), (21, .bptr 0 0)], [(0, srcB q.2), (7, .bx [.nil]), (8, .bx [.l3 t])]⟩ := ⟨_, rfl⟩
 obtain ⟨z41, ez41⟩ : ∃ z : St, z = ⟨[(2, .bptr 7 0), (6, .bptr 8 0), (12, .bptr 0 0), (15, .int t.length), (17, .int q.1), (21, .bptr 0 0), (22, .ref 9 [])], [(0, srcB q.2), (7, .bx [.nil]), (8, .bx [.l3 t]), (9, .t1 [0, 1, 2, 3, 4, 6, 9, 40, 41, -1])]⟩ := ⟨_, rfl⟩
 obtain ⟨z42, ez42⟩ : ∃ z : St, z = ⟨[(2, .bptr 7 0), (6, .bptr 8 0), (12, .bptr 0 0), (14, .l3 t), (18, .int (q.1 / 23)), (21, .bptr 0 0), (22, .ref 9 [])], [(0, srcB q.2), (7, .bx [.nil]), (8, .bx [.l3 t]), (9, .t1 [0, 1, 2, 3, 4, 6, 9, 40, 41, -1])]⟩ := ⟨_, rfl⟩
 obtain ⟨z43, ez43⟩ : ∃ z : St, z = ⟨[(2, .bptr 7 0), (11, .agg [.l3 t]), (12, .bptr 0 0), (15, .int t.length), (18, .int (q.1 / 23)), (21, .bptr 0 0)], [(0, srcB q.2), (7, .bx [.nil]), (8, .bx [.l3 t])]⟩ := ⟨_, rfl⟩
 obtain ⟨z44, ez44⟩ : ∃ z : St, z = ⟨[(2, .bptr 7 0), (11, .agg [.l3 t]), (12, .bptr 0 0), (15, .int t.length), (17, .int q.1), (21, .bptr 0 0), (22, .ref 9 [])], [(0, srcB q.2), (7, .bx [.nil]), (8, .bx [.l3 t]), (9, .t1 [0, 1, 2, 3, 4, 6, 9, 40, 41, -1])]⟩ := ⟨_, rfl⟩
 obtain ⟨z45, ez45⟩ : ∃ z : St, z = ⟨[(2, .bptr 7 0), (11, .agg [.l3 t]), (12, .bptr 0 0), (14, .l3 t), (18, .int (q.1 / 23)), (21, .bptr 0 0), (22, .ref 9 [])], [(0, srcB q.2), (7, .bx [.nil]), (8, .bx [.l3 t]), (9, .t1 [0, 1, 2, 3, 4, 6, 9, 40, 41, -1])]⟩ := ⟨_, rfl⟩
 obtain ⟨z46, ez46⟩ : ∃ z : St, z = ⟨[(2, .bptr 7 0), (6, .bptr 8 0), (12, .bptr 0 0), (19, .int (t.length + q.1 / 23)), (21, .bptr 0 0)], [(0, srcB q.2), (7, .bx [.nil]), (8, .bx [.l3 t])]⟩ := ⟨_, rfl⟩
 obtain ⟨z47, ez47⟩ : ∃ z : St, z = ⟨[(2, .bptr 7 0), (6, .bptr 8 0), (12, .bptr 0 0), (15, .int t.length), (18, .int (q.1 / 23)), (21, .bptr 0 0), (22, .ref 9 [])], [(0, srcB q.2), (7, .bx [.nil]), (8, .bx [.l3 t]), (9, .t1 [0, 1, 2, 3, 4, 6, 9, 40, 41, -1])]⟩ := ⟨_, rfl⟩
 obtain ⟨z48, ez48⟩ : ∃ z : St, z = ⟨[(2, .bptr 7 0), (11, .agg [.l3 t]), (12, .bptr 0 0), (19, .int (t.length + q.1 / 23)), (21, .bptr 0 0)], [(0, srcB q.2), (7, .bx [.nil]), (8, .bx [.l3 t])]⟩ := ⟨_, rfl⟩
 obtain ⟨z49, ez49⟩ : ∃ z : St, z = ⟨[(2, .bptr 7 0), (11, .agg [.l3 t]), (12, .bptr 0 0), (15, .int t.length), (18, .int (q.1 / 23)), (21, .bptr 0 0), (22, .ref 9 [])], [(0, srcB q.2), (7, .bx [.nil]), (8, .bx [.l3 t]), (9, .t1 [0, 1, 2, 3, 4, 6, 9, 40, 41, -1])]⟩ := ⟨_, rfl⟩
 obtain ⟨z50, ez50⟩ : ∃ z : St, z = ⟨[(2, .bptr 7 0), (6, .bptr 8 0), (20, .int r.1), (21, .bptr 0 0)], [(0, srcB r.2), (7, .bx [.nil]), (8, .bx [.l3 t])]⟩ := ⟨_, rfl⟩
 obtain ⟨z51, ez51⟩ : ∃ z : St, z = ⟨[(2, .bptr 7 0), (6, .bptr 8 0), (12, .bptr 0 0), (19, .int (t.length + q.1 / 23)), (21, .bptr 0 0), (22, .ref 9 [])], [(0, srcB q.2), (7, .bx [.nil]), (8, .bx [.l3 t]), (9, .t1 [0, 1, 2, 3, 4, 6, 9, 40, 41, -1])]⟩ := ⟨_, rfl⟩
 obtain ⟨z52, ez52⟩ : ∃ z : St, z = ⟨[(2, .bptr 7 0), (11, .agg [.l3 t]), (20, .int r.1), (21, .bptr 0 0)], [(0, srcB r.2), (7, .bx [.nil]), (8, .bx [.l3 t])]⟩ := ⟨_, rfl⟩
 obtain ⟨z53, ez53⟩ : ∃ z : St, z = ⟨[(2, .bptr 7 0), (11, .agg [.l3 t]), (12, .bptr 0 0), (19, .int (t.length + q.1 / 23)), (21, .bptr 0 0), (22, .ref 9 [])], [(0, srcB q.2), (7, .bx [.nil]), (8, .bx [.l3 t]), (9, .t1 [0, 1, 2, 3, 4, 6, 9, 40, 41, -1])]⟩ := ⟨_, rfl⟩
 obtain ⟨z54, ez54⟩ : ∃ z : St, z = ⟨[(2, .bptr 7 0), (6, .bptr 8 0), (20, .int r.1), (21, .bptr 0 0), (22, .ref 9 [])], [(0, srcB r.2), (7, .bx [.nil]), (8, .bx [.l3 t]), (9, .t1 [0, 1, 2, 3, 4, 6, 9, 40, 41, -1])]⟩ := ⟨_, rfl⟩
 obtain ⟨z55, ez55⟩ : ∃ z : St, z = ⟨[(2, .bptr 7 0), (11, .agg [.l3 t]), (20, .int r.1), (21, .bptr 0 0), (22, .ref 9 [])], [(0, srcB r.2), (7, .bx [.nil]), (8, .bx [.l3 t]), (9, .t1 [0, 1, 2, 3, 4, 6, 9, 40, 41, -1])]⟩ := ⟨_, rfl⟩
 obtain ⟨z56, ez56⟩ : ∃ z : St, z = ⟨[(2, .bptr 7 0), (6, .bptr 8 0), (20, .int r.1), (23, .int v)], [(0, srcB p.2), (7, .bx [.nil]), (8, .bx [.l3 t]), (9, .t1 [0, 1, 2, 3, 4, 6, 9, 40, 41, -1])]⟩ := ⟨_, rfl⟩
 obtain ⟨z57, ez57⟩ : ∃ z : St, z = ⟨[(2, .bptr 7 0), (11, .agg [.l3 t]), (20, .int r.1), (23, .int v)], [(0, srcB p.2), (7, .bx [.nil]), (8, .bx [.l3 t]), (9, .t1 [0, 1, 2, 3, 4, 6, 9, 40, 41, -1])]⟩ := ⟨_, rfl⟩
 obtain ⟨z58, ez58⟩ : ∃ z : St, z = ⟨[(2, .bptr 7 0), (20, .int r.1), (23, .int v)], [(0, srcB p.2), (7, .bx [.l3 t]), (8, .bx [.l3 t]), (9, .t1 [0, 1, 2, 3, 4, 6, 9, 40, 41, -1])]⟩ := ⟨_, rfl⟩
 obtain ⟨z59, ez59⟩ : ∃ z : St, z = ⟨[(2, .bptr 7 0), (3, .int r.1), (23, .int v)], [(0, srcB p.2), (7, .bx [.l3 t]), (8, .bx [.l3 t]), (9, .t1 [0, 1, 2, 3, 4, 6, 9, 40, 41, -1])]⟩ := ⟨_, rfl⟩
 obtain ⟨z60, ez60⟩ : ∃ z : St, z = ⟨[(2, .bptr 7 0), (3, .int r.1), (4, .int v)], [(0, srcB p.2), (7, .bx [.l3 t]), (8, .bx [.l3 t]), (9, .t1 [0, 1, 2, 3, 4, 6, 9, 40, 41, -1])]⟩ := ⟨_, rfl⟩
 refine ats_table [6, 9, 12] [1, 5, 10] [[1, 5, 10], [0, 1, 5, 10], [1, 2, 5, 10], [1, 5, 6, 10], [1, 5, 10, 11], [0, 1, 2, 5, 10], [0, 1, 5, 6, 10], [0, 1, 5, 10, 11], [1, 2, 3, 5, 10], [1, 2, 5, 6, 10], [1, 2, 5, 10, 11], [1, 5, 6, 7, 10], [1, 5, 6, 10, 11], [0, 1, 2, 3, 5, 10], [0, 1, 2, 5, 6, 10], [0, 1, 2, 5, 10, 11], [0, 1, 5, 6, 7, 10], [0, 1, 5, 6, 10, 11], [1, 2, 3, 4, 5, 10], [1, 2, 3, 5, 6, 10], [1, 2, 3, 5, 10, 11], [1, 2, 5, 6, 7, 10], [1, 2, 5, 6, 10, 11], [1, 5, 6, 7, 10, 11], [0, 1, 2, 3, 4, 5, 10], [0, 1, 2, 3, 5, 6, 10], [0, 1, 2, 3, 5, 10, 11], [0, 1, 2, 5, 6, 7, 10], [0, 1, 2, 5, 6, 10, 11], [0, 1, 5, 6, 7, 10, 11], [1, 2, 3, 4, 5, 6, 10], [1, 2, 3, 4, 5, 10, 11], [1, 2, 3, 5, 6, 7, 10], [1, 2, 3, 5, 6, 10, 11], [1, 2, 5, 6, 7, 10, 11], [0, 1, 2, 3, 4, 5, 6, 10], [0, 1, 2, 3, 4, 5, 10, 11], [0, 1, 2, 3, 5, 6, 7, 10], [0, 1, 2, 3, 5, 6, 10, 11], [0, 1, 2, 5, 6, 7, 10, 11], [1, 2, 3, 4, 5, 6, 7, 10], [1, 2, 3, 4, 5, 6, 10, 11], [1, 2, 3, 5, 6, 7, 10, 11], [0, 1, 2, 3, 4, 5, 6, 7, 10], [0, 1, 2, 3, 4, 5, 6, 10, 11], [0, 1, 2, 3, 5, 6, 7, 10, 11], [1, 2, 3, 4, 5, 6, 7, 8, 10], [1, 2, 3, 4, 5, 6, 7, 10, 11], [0, 1, 2, 3, 4, 5, 6, 7, 8, 10], [0, 1, 2, 3, 4, 5, 6, 7, 10, 11], [1, 2, 3, 4, 5, 6, 7, 8, 9, 10], [1, 2, 3, 4, 5, 6, 7, 8, 10, 11], [0, 1, 2, 3, 4, 5, 6, 7, 8, 9, 10], [0, 1, 2, 3, 4, 5, 6, 7, 8, 10, 11], [1, 2, 3, 4, 5, 6, 7, 8, 9, 10, 11], [0, 1, 2, 3, 4, 5, 6, 7, 8, 9, 10, 11], [1, 2, 3, 4, 5, 6, 7, 8, 9, 10, 11, 12], [0, 1, 2, 3, 4, 5, 6, 7, 8, 9, 10, 11, 12], [0, 1, 2, 3, 4, 5, 6, 7, 8, 9, 10, 11, 12, 13], [0, 1, 2, 3, 4, 5, 6, 7, 8, 9, 10, 11, 12, 13, 14], [0, 1, 2, 3, 4, 5, 6, 7, 8, 9, 10, 11, 12, 13, 14, 15]] [(0, 0, 1), (0, 2, 2), (0, 6, 3), (0, 11, 4), (1, 2, 5), (1, 6, 6), (1, 11, 7), (2, 0, 5), (2, 3, 8), (2, 6, 9), (2, 11, 10), (3, 0, 6), (3, 2, 9), (3, 7, 11), (3, 11, 12), (4, 0, 7), (4, 2, 10), (4, 6, 12), (5, 3, 13), (5, 6, 14), (5, 11, 15), (6, 2, 14), (6, 7, 16), (6, 11, 17), (7, 2, 15), (7, 6, 17), (8, 0, 13), (8, 4, 18), (8, 6, 19), (8, 11, 20), (9, 0, 14), (9, 3, 19), (9, 7, 21), (9, 11, 22), (10, 0, 15), (10, 3, 20), (10, 6, 22), (11, 0, 16), (11, 2, 21), (11, 11, 23), (12, 0, 17), (12, 2, 22), (12, 7, 23), (13, 4, 24), (13, 6, 25), (13, 11, 26), (14, 3, 25), (14, 7, 27), (14, 11, 28), (15, 3, 26), (15, 6, 28), (16, 2, 27), (16, 11, 29), (17, 2, 28), (17, 7, 29), (18, 0, 24), (18, 6, 30), (18, 11, 31), (19, 0, 25), (19, 4, 30), (19, 7, 32), (19, 11, 33), (20, 0, 26), (20, 4, 31), (20, 6, 33), (21, 0, 27), (21, 3, 32), (21, 11, 34), (22, 0, 28), (22, 3, 33), (22, 7, 34), (23, 0, 29), (23, 2, 34), (24, 6, 35), (24, 11, 36), (25, 4, 35), (25, 7, 37), (25, 11, 38), (26, 4, 36), (26, 6, 38), (27, 3, 37), (27, 11, 39), (28, 3, 38), (28, 7, 39), (29, 2, 39), (30, 0, 35), (30, 7, 40), (30, 11, 41), (31, 0, 36), (31, 6, 41), (32, 0, 37), (32, 4, 40), (32, 11, 42), (33, 0, 38), (33, 4, 41), (33, 7, 42), (34, 0, 39), (34, 3, 42), (35, 7, 43), (35, 11, 44), (36, 6, 44), (37, 4, 43), (37, 11, 45), (38, 4, 44), (38, 7, 45), (39, 3, 45), (40, 0, 43), (40, 8, 46), (40, 11, 47), (41, 0, 44), (41, 7, 47), (42, 0, 45), (42, 4, 47), (43, 8, 48), (43, 11, 49), (44, 7, 49), (45, 4, 49), (46, 0, 48), (46, 9, 50), (46, 11, 51), (47, 0, 49), (47, 8, 51), (48, 9, 52), (48, 11, 53), (49, 8, 53), (50, 0, 52), (50, 11, 54), (51, 0, 53), (51, 9, 54), (52, 11, 55), (53, 9, 55), (54, 0, 55), (54, 12, 56), (55, 12, 57), (56, 0, 57), (57, 13, 58), (58, 14, 59), (59, 15, 60)] [z0, z1, z2, z3, z4, z5, z6, z7, z8, z9, z10, z11, z12, z13, z14, z15, z16, z17, z18, z19, z20, z21, z22, z23, z24, z25, z26, z27, z28, z29, z30, z31, z32, z33, z34, z35, z36, z37, z38, z39, z40, z41, z42, z43, z44, z45, z46, z47, z48, z49, z50, z51, z52, z53, z54, z55, z56, z57, z58, z59, z60] hrd (by first | exact fix0 hcx | exact fix1 hcx rfl | exact fixN hcx rfl) mixed (by kernel_rfl) ?_ ?_ ?_
 ·show mvTRun _ _ _ _ _ _ (fun s => Ghost _ _ s z0)
  rw [ez0]; simp only [go_sem, seval]; repeat' (first | exact dt_can ⟨rfl, rfl, rfl, rfl, rfl, trivial⟩ rfl | with_reducible refine And.intro ?_ ?_ | omega)
 ·refine ⟨?_, ?_, ?_, ?_, ?_, ?_, ?_, ?_, ?_, ?_, ?_, ?_, ?_, ?_, ?_, ?_, ?_, ?_, ?_, ?_, ?_, ?_, ?_, ?_, ?_, ?_, ?_, ?_, ?_, ?_, ?_, ?_, ?_, ?_, ?_, ?_, ?_, ?_, ?_, ?_, ?_, ?_, ?_, ?_, ?_, ?_, ?_, ?_, ?_, ?_, ?_, ?_, ?_, ?_, ?_, ?_, ?_, ?_, ?_, ?_, ?_, ?_, ?_, ?_, ?_, ?_, ?_, ?_, ?_, ?_, ?_, ?_, ?_, ?_, ?_, ?_, ?_, ?_, ?_, ?_, ?_, ?_, ?_, ?_, ?_, ?_, ?_, ?_, ?_, ?_, ?_, ?_, ?_, ?_, ?_, ?_, ?_, ?_, ?_, ?_, ?_, ?_, ?_, ?_, ?_, ?_, ?_, ?_, ?_, ?_, ?_, ?_, ?_, ?_, ?_, ?_, ?_, ?_, ?_, ?_, ?_, ?_, ?_, ?_, ?_, ?_, ?_, ?_, ?_, ?_, ?_, ?_, ?_, ?_, ?_, ?_, ?_, ?_, trivial⟩
  ·show gRun _ _ _ _ _ z0 (fun st' => Ghost _ _ st' z1)
   rw [ez0, ez1]; simp only [go_sem, seval]; repeat' (first | exact dt_can ⟨rfl, rfl, rfl, rfl, rfl, rfl, trivial⟩ rfl | with_reducible refine And.intro ?_ ?_ | omega)
  ·show gRun _ _ _ _ _ z0 (fun st' => Ghost _ _ st' z2)
   rw [ez0, ez2]; simp only [go_sem, seval]; exact dt_can ⟨rfl, rfl, rfl, rfl, rfl, rfl, trivial⟩ rfl
  ·show gRun _ _ _ _ _ z0 (fun st' => Ghost _ _ st' z3)
   rw [ez0, ez3]; simp only [go_sem, seval]; refine fcall_src (hN) rfl rfl ?_; simp only [go_sem, seval]; exact dt_can ⟨rfl, rfl, rfl, rfl, rfl, trivial⟩ rfl
  ·show gRun _ _ _ _ _ z0 (fun st' => Ghost _ _ st' z4)
   rw [ez0, ez4]; simp only [go_sem, seval]; repeat' (first | exact dt_can ⟨rfl, rfl, rfl, rfl, rfl, rfl, trivial⟩ rfl | with_reducible refine And.intro ?_ ?_ | omega)
  ·show gRun _ _ _ _ _ z1 (fun st' => Ghost _ _ st' z5)
   rw [ez1, ez5]; simp only [go_sem, seval]; exact dt_can ⟨rfl, rfl, rfl, rfl, rfl, rfl, trivial⟩ rfl
  ·show gRun _ _ _ _ _ z1 (fun st' => Ghost _ _ st' z6)
   rw [ez1, ez6]; simp only [go_sem, seval]; refine fcall_src (hN) rfl rfl ?_; simp only [go_sem, seval]; exact dt_can ⟨rfl, rfl, rfl, rfl, rfl, rfl, trivial⟩ rfl
  ·show gRun _ _ _ _ _ z1 (fun st' => Ghost _ _ st' z7)
   rw [ez1, ez7]; simp only [go_sem, seval]; repeat' (first | exact dt_can ⟨rfl, rfl, rfl, rfl, rfl, rfl, rfl, trivial⟩ rfl | with_reducible refine And.intro ?_ ?_ | omega)
  ·show gRun _ _ _ _ _ z2 (fun st' => Ghost _ _ st' z5)
   rw [ez2, ez5]; simp only [go_sem, seval]; repeat' (first | exact dt_can ⟨rfl, rfl, rfl, rfl, rfl, rfl, trivial⟩ rfl | with_reducible refine And.intro ?_ ?_ | omega)
  ·show gRun _ _ _ _ _ z2 (fun st' => Ghost _ _ st' z8)
   rw [ez2, ez8]; simp only [go_sem, seval]; repeat' (first | exact dt_can ⟨rfl, rfl, rfl, rfl, rfl, rfl, trivial⟩ rfl | with_reducible refine And.intro ?_ ?_ | omega)
  ·show gRun _ _ _ _ _ z2 (fun st' => Ghost _ _ st' z9)
   rw [ez2, ez9]; simp only [go_sem, seval]; refine fcall_src (hN) rfl rfl ?_; simp only [go_sem, seval]; exact dt_can ⟨rfl, rfl, rfl, rfl, rfl, rfl, trivial⟩ rfl
  ·show gRun _ _ _ _ _ z2 (fun st' => Ghost _ _ st' z10)
   rw [ez2, ez10]; simp only [go_sem, seval]; repeat' (first | exact dt_can ⟨rfl, rfl, rfl, rfl, rfl, rfl, rfl, trivial⟩ rfl | with_reducible refine And.intro ?_ ?_ | omega)
  ·show gRun _ _ _ _ _ z3 (fun st' => Ghost _ _ st' z6)
   rw [ez3, ez6]; simp only [go_sem, seval]; repeat' (first | exact dt_can ⟨rfl, rfl, rfl, rfl, rfl, rfl, trivial⟩ rfl | with_reducible refine And.intro ?_ ?_ | omega)
  ·show gRun _ _ _ _ _ z3 (fun st' => Ghost _ _ st' z9)
   rw [ez3, ez9]; simp only [go_sem, seval]; exact dt_can ⟨rfl, rfl, rfl, rfl, rfl, rfl, trivial⟩ rfl
  ·show gRun _ _ _ _ _ z3 (fun st' => Ghost _ _ st' z11)
   rw [ez3, ez11]; simp only [go_sem, seval]; (try simp only [ed]); repeat' (first | exact dt_can ⟨rfl, rfl, rfl, rfl, rfl, trivial⟩ rfl | with_reducible refine And.intro ?_ ?_ | omega)
  ·show gRun _ _ _ _ _ z3 (fun st' => Ghost _ _ st' z12)
   rw [ez3, ez12]; simp only [go_sem, seval]; repeat' (first | exact dt_can ⟨rfl, rfl, rfl, rfl, rfl, rfl, trivial⟩ rfl | with_reducible refine And.intro ?_ ?_ | omega)
  ·show gRun _ _ _ _ _ z4 (fun st' => Ghost _ _ st' z7)
   rw [ez4, ez7]; simp only [go_sem, seval]; repeat' (first | exact dt_can ⟨rfl, rfl, rfl, rfl, rfl, rfl, rfl, trivial⟩ rfl | with_reducible refine And.intro ?_ ?_ | omega)
  ·show gRun _ _ _ _ _ z4 (fun st' => Ghost _ _ st' z10)
   rw [ez4, ez10]; simp only [go_sem, seval]; exact dt_can ⟨rfl, rfl, rfl, rfl, rfl, rfl, rfl, trivial⟩ rfl
  ·show gRun _ _ _ _ _ z4 (fun st' => Ghost _ _ st' z12)
   rw [ez4, ez12]; simp only [go_sem, seval]; refine fcall_src (hN) rfl rfl ?_; simp only [go_sem, seval]; exact dt_can ⟨rfl, rfl, rfl, rfl, rfl, rfl, trivial⟩ rfl
  ·show gRun _ _ _ _ _ z5 (fun st' => Ghost _ _ st' z13)
   rw [ez5, ez13]; simp only [go_sem, seval]; repeat' (first | exact dt_can ⟨rfl, rfl, rfl, rfl, rfl, rfl, trivial⟩ rfl | with_reducible refine And.intro ?_ ?_ | omega)
  ·show gRun _ _ _ _ _ z5 (fun st' => Ghost _ _ st' z14)
   rw [ez5, ez14]; simp only [go_sem, seval]; refine fcall_src (hN) rfl rfl ?_; simp only [go_sem, seval]; exact dt_can ⟨rfl, rfl, rfl, rfl, rfl, rfl, trivial⟩ rfl
  ·show gRun _ _ _ _ _ z5 (fun st' => Ghost _ _ st' z15)
   rw [ez5, ez15]; simp only [go_sem, seval]; repeat' (first | exact dt_can ⟨rfl, rfl, rfl, rfl, rfl, rfl, rfl, trivial⟩ rfl | with_reducible refine And.intro ?_ ?_ | omega)
  ·show gRun _ _ _ _ _ z6 (fun st' => Ghost _ _ st' z14)
   rw [ez6, ez14]; simp only [go_sem, seval]; exact dt_can ⟨rfl, rfl, rfl, rfl, rfl, rfl, trivial⟩ rfl
  ·show gRun _ _ _ _ _ z6 (fun st' => Ghost _ _ st' z16)
   rw [ez6, ez16]; simp only [go_sem, seval]; (try simp only [ed]); repeat' (first | exact dt_can ⟨rfl, rfl, rfl, rfl, rfl, rfl, trivial⟩ rfl | with_reducible refine And.intro ?_ ?_ | omega)
  ·show gRun _ _ _ _ _ z6 (fun st' => Ghost _ _ st' z17)
   rw [ez6, ez17]; simp only [go_sem, seval]; repeat' (first | exact dt_can ⟨rfl, rfl, rfl, rfl, rfl, rfl, rfl, trivial⟩ rfl | with_reducible refine And.intro ?_ ?_ | omega)
  ·show gRun _ _ _ _ _ z7 (fun st' => Ghost _ _ st' z15)
   rw [ez7, ez15]; simp only [go_sem, seval]; exact dt_can ⟨rfl, rfl, rfl, rfl, rfl, rfl, rfl, trivial⟩ rfl
  ·show gRun _ _ _ _ _ z7 (fun st' => Ghost _ _ st' z17)
   rw [ez7, ez17]; simp only [go_sem, seval]; refine fcall_src (hN) rfl rfl ?_; simp only [go_sem, seval]; exact dt_can ⟨rfl, rfl, rfl, rfl, rfl, rfl, rfl, trivial⟩ rfl
  ·show gRun _ _ _ _ _ z8 (fun st' => Ghost _ _ st' z13)
   rw [ez8, ez13]; simp only [go_sem, seval]; repeat' (first | exact dt_can ⟨rfl, rfl, rfl, rfl, rfl, rfl, trivial⟩ rfl | with_reducible refine And.intro ?_ ?_ | omega)
  ·show gRun _ _ _ _ _ z8 (fun st' => Ghost _ _ st' z18)
   rw [ez8, ez18]; simp only [go_sem, seval]; repeat' (first | exact dt_can ⟨rfl, rfl, rfl, rfl, rfl, rfl, trivial⟩ rfl | with_reducible refine And.intro ?_ ?_ | omega)
  ·show gRun _ _ _ _ _ z8 (fun st' => Ghost _ _ st' z19)
   rw [ez8, ez19]; simp only [go_sem, seval]; refine fcall_src (hN) rfl rfl ?_; simp only [go_sem, seval]; exact dt_can ⟨rfl, rfl, rfl, rfl, rfl, rfl, trivial⟩ rfl
  ·show gRun _ _ _ _ _ z8 (fun st' => Ghost _ _ st' z20)
   rw [ez8, ez20]; simp only [go_sem, seval]; repeat' (first | exact dt_can ⟨rfl, rfl, rfl, rfl, rfl, rfl, rfl, trivial⟩ rfl | with_reducible refine And.intro ?_ ?_ | omega)
  ·show gRun _ _ _ _ _ z9 (fun st' => Ghost _ _ st' z14)
   rw [ez9, ez14]; simp only [go_sem, seval]; repeat' (first | exact dt_can ⟨rfl, rfl, rfl, rfl, rfl, rfl, trivial⟩ rfl | with_reducible refine And.intro ?_ ?_ | omega)
  ·show gRun _ _ _ _ _ z9 (fun st' => Ghost _ _ st' z19)
   rw [ez9, ez19]; simp only [go_sem, seval]; repeat' (first | exact dt_can ⟨rfl, rfl, rfl, rfl, rfl, rfl, trivial⟩ rfl | with_reducible refine And.intro ?_ ?_ | omega)
  ·show gRun _ _ _ _ _ z9 (fun st' => Ghost _ _ st' z21)
   rw [ez9, ez21]; simp only [go_sem, seval]; (try simp only [ed]); repeat' (first | exact dt_can ⟨rfl, rfl, rfl, rfl, rfl, rfl, trivial⟩ rfl | with_reducible refine And.intro ?_ ?_ | omega)
  ·show gRun _ _ _ _ _ z9 (fun st' => Ghost _ _ st' z22)
   rw [ez9, ez22]; simp only [go_sem, seval]; repeat' (first | exact dt_can ⟨rfl, rfl, rfl, rfl, rfl, rfl, rfl, trivial⟩ rfl | with_reducible refine And.intro ?_ ?_ | omega)
  ·show gRun _ _ _ _ _ z10 (fun st' => Ghost _ _ st' z15)
   rw [ez10, ez15]; simp only [go_sem, seval]; repeat' (first | exact dt_can ⟨rfl, rfl, rfl, rfl, rfl, rfl, rfl, trivial⟩ rfl | with_reducible refine And.intro ?_ ?_ | omega)
  ·show gRun _ _ _ _ _ z10 (fun st' => Ghost _ _ st' z20)
   rw [ez10, ez20]; simp only [go_sem, seval]; repeat' (first | exact dt_can ⟨rfl, rfl, rfl, rfl, rfl, rfl, rfl, trivial⟩ rfl | with_reducible refine And.intro ?_ ?_ | omega)
  ·show gRun _ _ _ _ _ z10 (fun st' => Ghost _ _ st' z22)
   rw [ez10, ez22]; simp only [go_sem, seval]; refine fcall_src (hN) rfl rfl ?_; simp only [go_sem, seval]; exact dt_can ⟨rfl, rfl, rfl, rfl, rfl, rfl, rfl, trivial⟩ rfl
  ·show gRun _ _ _ _ _ z11 (fun st' => Ghost _ _ st' z16)
   rw [ez11, ez16]; simp only [go_sem, seval]; repeat' (first | exact dt_can ⟨rfl, rfl, rfl, rfl, rfl, rfl, trivial⟩ rfl | with_reducible refine And.intro ?_ ?_ | omega)
  ·show gRun _ _ _ _ _ z11 (fun st' => Ghost _ _ st' z21)
   rw [ez11, ez21]; simp only [go_sem, seval]; exact dt_can ⟨rfl, rfl, rfl, rfl, rfl, rfl, trivial⟩ rfl
  ·show gRun _ _ _ _ _ z11 (fun st' => Ghost _ _ st' z23)
   rw [ez11, ez23]; simp only [go_sem, seval]; repeat' (first | exact dt_can ⟨rfl, rfl, rfl, rfl, rfl, rfl, trivial⟩ rfl | with_reducible refine And.intro ?_ ?_ | omega)
  ·show gRun _ _ _ _ _ z12 (fun st' => Ghost _ _ st' z17)
   rw [ez12, ez17]; simp only [go_sem, seval]; repeat' (first | exact dt_can ⟨rfl, rfl, rfl, rfl, rfl, rfl, rfl, trivial⟩ rfl | with_reducible refine And.intro ?_ ?_ | omega)
  ·show gRun _ _ _ _ _ z12 (fun st' => Ghost _ _ st' z22)
   rw [ez12, ez22]; simp only [go_sem, seval]; exact dt_can ⟨rfl, rfl, rfl, rfl, rfl, rfl, rfl, trivial⟩ rfl
  ·show gRun _ _ _ _ _ z12 (fun st' => Ghost _ _ st' z23)
   rw [ez12, ez23]; simp only [go_sem, seval]; (try simp only [ed]); repeat' (first | exact dt_can ⟨rfl, rfl, rfl, rfl, rfl, rfl, trivial⟩ rfl | with_reducible refine And.intro ?_ ?_ | omega)
  ·show gRun _ _ _ _ _ z13 (fun st' => Ghost _ _ st' z24)
   rw [ez13, ez24]; simp only [go_sem, seval]; repeat' (first | exact dt_can ⟨rfl, rfl, rfl, rfl, rfl, rfl, trivial⟩ rfl | with_reducible refine And.intro ?_ ?_ | omega)
  ·show gRun _ _ _ _ _ z13 (fun st' => Ghost _ _ st' z25)
   rw [ez13, ez25]; simp only [go_sem, seval]; refine fcall_src (hN) rfl rfl ?_; simp only [go_sem, seval]; exact dt_can ⟨rfl, rfl, rfl, rfl, rfl, rfl, trivial⟩ rfl
  ·show gRun _ _ _ _ _ z13 (fun st' => Ghost _ _ st' z26)
   rw [ez13, ez26]; simp only [go_sem, seval]; repeat' (first | exact dt_can ⟨rfl, rfl, rfl, rfl, rfl, rfl, rfl, trivial⟩ rfl | with_reducible refine And.intro ?_ ?_ | omega)
  ·show gRun _ _ _ _ _ z14 (fun st' => Ghost _ _ st' z25)
   rw [ez14, ez25]; simp only [go_sem, seval]; repeat' (first | exact dt_can ⟨rfl, rfl, rfl, rfl, rfl, rfl, trivial⟩ rfl | with_reducible refine And.intro ?_ ?_ | omega)
  ·show gRun _ _ _ _ _ z14 (fun st' => Ghost _ _ st' z27)
   rw [ez14, ez27]; simp only [go_sem, seval]; (try simp only [ed]); repeat' (first | exact dt_can ⟨rfl, rfl, rfl, rfl, rfl, rfl, trivial⟩ rfl | with_reducible refine And.intro ?_ ?_ | omega)
  ·show gRun _ _ _ _ _ z14 (fun st' => Ghost _ _ st' z28)
   rw [ez14, ez28]; simp only [go_sem, seval]; repeat' (first | exact dt_can ⟨rfl, rfl, rfl, rfl, rfl, rfl, rfl, trivial⟩ rfl | with_reducible refine And.intro ?_ ?_ | omega)
  ·show gRun _ _ _ _ _ z15 (fun st' => Ghost _ _ st' z26)
   rw [ez15, ez26]; simp only [go_sem, seval]; repeat' (first | exact dt_can ⟨rfl, rfl, rfl, rfl, rfl, rfl, rfl, trivial⟩ rfl | with_reducible refine And.intro ?_ ?_ | omega)
  ·show gRun _ _ _ _ _ z15 (fun st' => Ghost _ _ st' z28)
   rw [ez15, ez28]; simp only [go_sem, seval]; refine fcall_src (hN) rfl rfl ?_; simp only [go_sem, seval]; exact dt_can ⟨rfl, rfl, rfl, rfl, rfl, rfl, rfl, trivial⟩ rfl
  ·show gRun _ _ _ _ _ z16 (fun st' => Ghost _ _ st' z27)
   rw [ez16, ez27]; simp only [go_sem, seval]; exact dt_can ⟨rfl, rfl, rfl, rfl, rfl, rfl, trivial⟩ rfl
  ·show gRun _ _ _ _ _ z16 (fun st' => Ghost _ _ st' z29)
   rw [ez16, ez29]; simp only [go_sem, seval]; repeat' (first | exact dt_can ⟨rfl, rfl, rfl, rfl, rfl, rfl, rfl, trivial⟩ rfl | with_reducible refine And.intro ?_ ?_ | omega)
  ·show gRun _ _ _ _ _ z17 (fun st' => Ghost _ _ st' z28)
   rw [ez17, ez28]; simp only [go_sem, seval]; exact dt_can ⟨rfl, rfl, rfl, rfl, rfl, rfl, rfl, trivial⟩ rfl
  ·show gRun _ _ _ _ _ z17 (fun st' => Ghost _ _ st' z29)
   rw [ez17, ez29]; simp only [go_sem, seval]; (try simp only [ed]); repeat' (first | exact dt_can ⟨rfl, rfl, rfl, rfl, rfl, rfl, rfl, trivial⟩ rfl | with_reducible refine And.intro ?_ ?_ | omega)
  ·show gRun _ _ _ _ _ z18 (fun st' => Ghost _ _ st' z24)
   rw [ez18, ez24]; simp only [go_sem, seval]; repeat' (first | exact dt_can ⟨rfl, rfl, rfl, rfl, rfl, rfl, trivial⟩ rfl | with_reducible refine And.intro ?_ ?_ | omega)
  ·show gRun _ _ _ _ _ z18 (fun st' => Ghost _ _ st' z30)
   rw [ez18, ez30]; simp only [go_sem, seval]; refine fcall_src (hN) rfl rfl ?_; simp only [go_sem, seval]; exact dt_can ⟨rfl, rfl, rfl, rfl, rfl, rfl, trivial⟩ rfl
  ·show gRun _ _ _ _ _ z18 (fun st' => Ghost _ _ st' z31)
   rw [ez18, ez31]; simp only [go_sem, seval]; repeat' (first | exact dt_can ⟨rfl, rfl, rfl, rfl, rfl, rfl, rfl, trivial⟩ rfl | with_reducible refine And.intro ?_ ?_ | omega)
  ·show gRun _ _ _ _ _ z19 (fun st' => Ghost _ _ st' z25)
   rw [ez19, ez25]; simp only [go_sem, seval]; repeat' (first | exact dt_can ⟨rfl, rfl, rfl, rfl, rfl, rfl, trivial⟩ rfl | with_reducible refine And.intro ?_ ?_ | omega)
  ·show gRun _ _ _ _ _ z19 (fun st' => Ghost _ _ st' z30)
   rw [ez19, ez30]; simp only [go_sem, seval]; repeat' (first | exact dt_can ⟨rfl, rfl, rfl, rfl, rfl, rfl, trivial⟩ rfl | with_reducible refine And.intro ?_ ?_ | omega)
  ·show gRun _ _ _ _ _ z19 (fun st' => Ghost _ _ st' z32)
   rw [ez19, ez32]; simp only [go_sem, seval]; (try simp only [ed]); repeat' (first | exact dt_can ⟨rfl, rfl, rfl, rfl, rfl, rfl, trivial⟩ rfl | with_reducible refine And.intro ?_ ?_ | omega)
  ·show gRun _ _ _ _ _ z19 (fun st' => Ghost _ _ st' z33)
   rw [ez19, ez33]; simp only [go_sem, seval]; repeat' (first | exact dt_can ⟨rfl, rfl, rfl, rfl, rfl, rfl, rfl, trivial⟩ rfl | with_reducible refine And.intro ?_ ?_ | omega)
  ·show gRun _ _ _ _ _ z20 (fun st' => Ghost _ _ st' z26)
   rw [ez20, ez26]; simp only [go_sem, seval]; repeat' (first | exact dt_can ⟨rfl, rfl, rfl, rfl, rfl, rfl, rfl, trivial⟩ rfl | with_reducible refine And.intro ?_ ?_ | omega)
  ·show gRun _ _ _ _ _ z20 (fun st' => Ghost _ _ st' z31)
   rw [ez20, ez31]; simp only [go_sem, seval]; repeat' (first | exact dt_can ⟨rfl, rfl, rfl, rfl, rfl, rfl, rfl, trivial⟩ rfl | with_reducible refine And.intro ?_ ?_ | omega)
  ·show gRun _ _ _ _ _ z20 (fun st' => Ghost _ _ st' z33)
   rw [ez20, ez33]; simp only [go_sem, seval]; refine fcall_src (hN) rfl rfl ?_; simp only [go_sem, seval]; exact dt_can ⟨rfl, rfl, rfl, rfl, rfl, rfl, rfl, trivial⟩ rfl
  ·show gRun _ _ _ _ _ z21 (fun st' => Ghost _ _ st' z27)
   rw [ez21, ez27]; simp only [go_sem, seval]; repeat' (first | exact dt_can ⟨rfl, rfl, rfl, rfl, rfl, rfl, trivial⟩ rfl | with_reducible refine And.intro ?_ ?_ | omega)
  ·show gRun _ _ _ _ _ z21 (fun st' => Ghost _ _ st' z32)
   rw [ez21, ez32]; simp only [go_sem, seval]; repeat' (first | exact dt_can ⟨rfl, rfl, rfl, rfl, rfl, rfl, trivial⟩ rfl | with_reducible refine And.intro ?_ ?_ | omega)
  ·show gRun _ _ _ _ _ z21 (fun st' => Ghost _ _ st' z34)
   rw [ez21, ez34]; simp only [go_sem, seval]; repeat' (first | exact dt_can ⟨rfl, rfl, rfl, rfl, rfl, rfl, rfl, trivial⟩ rfl | with_reducible refine And.intro ?_ ?_ | omega)
  ·show gRun _ _ _ _ _ z22 (fun st' => Ghost _ _ st' z28)
   rw [ez22, ez28]; simp only [go_sem, seval]; repeat' (first | exact dt_can ⟨rfl, rfl, rfl, rfl, rfl, rfl, rfl, trivial⟩ rfl | with_reducible refine And.intro ?_ ?_ | omega)
  ·show gRun _ _ _ _ _ z22 (fun st' => Ghost _ _ st' z33)
   rw [ez22, ez33]; simp only [go_sem, seval]; repeat' (first | exact dt_can ⟨rfl, rfl, rfl, rfl, rfl, rfl, rfl, trivial⟩ rfl | with_reducible refine And.intro ?_ ?_ | omega)
  ·show gRun _ _ _ _ _ z22 (fun st' => Ghost _ _ st' z34)
   rw [ez22, ez34]; simp only [go_sem, seval]; (try simp only [ed]); repeat' (first | exact dt_can ⟨rfl, rfl, rfl, rfl, rfl, rfl, rfl, trivial⟩ rfl | with_reducible refine And.intro ?_ ?_ | omega)
  ·show gRun _ _ _ _ _ z23 (fun st' => Ghost _ _ st' z29)
   rw [ez23, ez29]; simp only [go_sem, seval]; repeat' (first | exact dt_can ⟨rfl, rfl, rfl, rfl, rfl, rfl, rfl, trivial⟩ rfl | with_reducible refine And.intro ?_ ?_ | omega)
  ·show gRun _ _ _ _ _ z23 (fun st' => Ghost _ _ st' z34)
   rw [ez23, ez34]; simp only [go_sem, seval]; exact dt_can ⟨rfl, rfl, rfl, rfl, rfl, rfl, rfl, trivial⟩ rfl
  ·show gRun _ _ _ _ _ z24 (fun st' => Ghost _ _ st' z35)
   rw [ez24, ez35]; simp only [go_sem, seval]; refine fcall_src (hN) rfl rfl ?_; simp only [go_sem, seval]; exact dt_can ⟨rfl, rfl, rfl, rfl, rfl, rfl, trivial⟩ rfl
  ·show gRun _ _ _ _ _ z24 (fun st' => Ghost _ _ st' z36)
   rw [ez24, ez36]; simp only [go_sem, seval]; repeat' (first | exact dt_can ⟨rfl, rfl, rfl, rfl, rfl, rfl, rfl, trivial⟩ rfl | with_reducible refine And.intro ?_ ?_ | omega)
  ·show gRun _ _ _ _ _ z25 (fun st' => Ghost _ _ st' z35)
   rw [ez25, ez35]; simp only [go_sem, seval]; repeat' (first | exact dt_can ⟨rfl, rfl, rfl, rfl, rfl, rfl, trivial⟩ rfl | with_reducible refine And.intro ?_ ?_ | omega)
  ·show gRun _ _ _ _ _ z25 (fun st' => Ghost _ _ st' z37)
   rw [ez25, ez37]; simp only [go_sem, seval]; (try simp only [ed]); repeat' (first | exact dt_can ⟨rfl, rfl, rfl, rfl, rfl, rfl, trivial⟩ rfl | with_reducible refine And.intro ?_ ?_ | omega)
  ·show gRun _ _ _ _ _ z25 (fun st' => Ghost _ _ st' z38)
   rw [ez25, ez38]; simp only [go_sem, seval]; repeat' (first | exact dt_can ⟨rfl, rfl, rfl, rfl, rfl, rfl, rfl, trivial⟩ rfl | with_reducible refine And.intro ?_ ?_ | omega)
  ·show gRun _ _ _ _ _ z26 (fun st' => Ghost _ _ st' z36)
   rw [ez26, ez36]; simp only [go_sem, seval]; repeat' (first | exact dt_can ⟨rfl, rfl, rfl, rfl, rfl, rfl, rfl, trivial⟩ rfl | with_reducible refine And.intro ?_ ?_ | omega)
  ·show gRun _ _ _ _ _ z26 (fun st' => Ghost _ _ st' z38)
   rw [ez26, ez38]; simp only [go_sem, seval]; refine fcall_src (hN) rfl rfl ?_; simp only [go_sem, seval]; exact dt_can ⟨rfl, rfl, rfl, rfl, rfl, rfl, rfl, trivial⟩ rfl
  ·show gRun _ _ _ _ _ z27 (fun st' => Ghost _ _ st' z37)
   rw [ez27, ez37]; simp only [go_sem, seval]; repeat' (first | exact dt_can ⟨rfl, rfl, rfl, rfl, rfl, rfl, trivial⟩ rfl | with_reducible refine And.intro ?_ ?_ | omega)
  ·show gRun _ _ _ _ _ z27 (fun st' => Ghost _ _ st' z39)
   rw [ez27, ez39]; simp only [go_sem, seval]; repeat' (first | exact dt_can ⟨rfl, rfl, rfl, rfl, rfl, rfl, rfl, trivial⟩ rfl | with_reducible refine And.intro ?_ ?_ | omega)
  ·show gRun _ _ _ _ _ z28 (fun st' => Ghost _ _ st' z38)
   rw [ez28, ez38]; simp only [go_sem, seval]; repeat' (first | exact dt_can ⟨rfl, rfl, rfl, rfl, rfl, rfl, rfl, trivial⟩ rfl | with_reducible refine And.intro ?_ ?_ | omega)
  ·show gRun _ _ _ _ _ z28 (fun st' => Ghost _ _ st' z39)
   rw [ez28, ez39]; simp only [go_sem, seval]; (try simp only [ed]); repeat' (first | exact dt_can ⟨rfl, rfl, rfl, rfl, rfl, rfl, rfl, trivial⟩ rfl | with_reducible refine And.intro ?_ ?_ | omega)
  ·show gRun _ _ _ _ _ z29 (fun st' => Ghost _ _ st' z39)
   rw [ez29, ez39]; simp only [go_sem, seval]; exact dt_can ⟨rfl, rfl, rfl, rfl, rfl, rfl, rfl, trivial⟩ rfl
  ·show gRun _ _ _ _ _ z30 (fun st' => Ghost _ _ st' z35)
   rw [ez30, ez35]; simp only [go_sem, seval]; repeat' (first | exact dt_can ⟨rfl, rfl, rfl, rfl, rfl, rfl, trivial⟩ rfl | with_reducible refine And.intro ?_ ?_ | omega)
  ·show gRun _ _ _ _ _ z30 (fun st' => Ghost _ _ st' z40)
   rw [ez30, ez40]; simp only [go_sem, seval]; (try simp only [ed]); repeat' (first | exact dt_can ⟨rfl, rfl, rfl, rfl, rfl, rfl, trivial⟩ rfl | with_reducible refine And.intro ?_ ?_ | omega)
  ·show gRun _ _ _ _ _ z30 (fun st' => Ghost _ _ st' z41)
   rw [ez30, ez41]; simp only [go_sem, seval]; repeat' (first | exact dt_can ⟨rfl, rfl, rfl, rfl, rfl, rfl, rfl, trivial⟩ rfl | with_reducible refine And.intro ?_ ?_ | omega)
  ·show gRun _ _ _ _ _ z31 (fun st' => Ghost _ _ st' z36)
   rw [ez31, ez36]; simp only [go_sem, seval]; repeat' (first | exact dt_can ⟨rfl, rfl, rfl, rfl, rfl, rfl, rfl, trivial⟩ rfl | with_reducible refine And.intro ?_ ?_ | omega)
  ·show gRun _ _ _ _ _ z31 (fun st' => Ghost _ _ st' z41)
   rw [ez31, ez41]; simp only [go_sem, seval]; refine fcall_src (hN) rfl rfl ?_; simp only [go_sem, seval]; exact dt_can ⟨rfl, rfl, rfl, rfl, rfl, rfl, rfl, trivial⟩ rfl
  ·show gRun _ _ _ _ _ z32 (fun st' => Ghost _ _ st' z37)
   rw [ez32, ez37]; simp only [go_sem, seval]; repeat' (first | exact dt_can ⟨rfl, rfl, rfl, rfl, rfl, rfl, trivial⟩ rfl | with_reducible refine And.intro ?_ ?_ | omega)
  ·show gRun _ _ _ _ _ z32 (fun st' => Ghost _ _ st' z40)
   rw [ez32, ez40]; simp only [go_sem, seval]; repeat' (first | exact dt_can ⟨rfl, rfl, rfl, rfl, rfl, rfl, trivial⟩ rfl | with_reducible refine And.intro ?_ ?_ | omega)
  ·show gRun _ _ _ _ _ z32 (fun st' => Ghost _ _ st' z42)
   rw [ez32, ez42]; simp only [go_sem, seval]; repeat' (first | exact dt_can ⟨rfl, rfl, rfl, rfl, rfl, rfl, rfl, trivial⟩ rfl | with_reducible refine And.intro ?_ ?_ | omega)
  ·show gRun _ _ _ _ _ z33 (fun st' => Ghost _ _ st' z38)
   rw [ez33, ez38]; simp only [go_sem, seval]; repeat' (first | exact dt_can ⟨rfl, rfl, rfl, rfl, rfl, rfl, rfl, trivial⟩ rfl | with_reducible refine And.intro ?_ ?_ | omega)
  ·show gRun _ _ _ _ _ z33 (fun st' => Ghost _ _ st' z41)
   rw [ez33, ez41]; simp only [go_sem, seval]; repeat' (first | exact dt_can ⟨rfl, rfl, rfl, rfl, rfl, rfl, rfl, trivial⟩ rfl | with_reducible refine And.intro ?_ ?_ | omega)
  ·show gRun _ _ _ _ _ z33 (fun st' => Ghost _ _ st' z42)
   rw [ez33, ez42]; simp only [go_sem, seval]; (try simp only [ed]); repeat' (first | exact dt_can ⟨rfl, rfl, rfl, rfl, rfl, rfl, rfl, trivial⟩ rfl | with_reducible refine And.intro ?_ ?_ | omega)
  ·show gRun _ _ _ _ _ z34 (fun st' => Ghost _ _ st' z39)
   rw [ez34, ez39]; simp only [go_sem, seval]; repeat' (first | exact dt_can ⟨rfl, rfl, rfl, rfl, rfl, rfl, rfl, trivial⟩ rfl | with_reducible refine And.intro ?_ ?_ | omega)
  ·show gRun _ _ _ _ _ z34 (fun st' => Ghost _ _ st' z42)
   rw [ez34, ez42]; simp only [go_sem, seval]; repeat' (first | exact dt_can ⟨rfl, rfl, rfl, rfl, rfl, rfl, rfl, trivial⟩ rfl | with_reducible refine And.intro ?_ ?_ | omega)
  ·show gRun _ _ _ _ _ z35 (fun st' => Ghost _ _ st' z43)
   rw [ez35, ez43]; simp only [go_sem, seval]; (try simp only [ed]); repeat' (first | exact dt_can ⟨rfl, rfl, rfl, rfl, rfl, rfl, trivial⟩ rfl | with_reducible refine And.intro ?_ ?_ | omega)
  ·show gRun _ _ _ _ _ z35 (fun st' => Ghost _ _ st' z44)
   rw [ez35, ez44]; simp only [go_sem, seval]; repeat' (first | exact dt_can ⟨rfl, rfl, rfl, rfl, rfl, rfl, rfl, trivial⟩ rfl | with_reducible refine And.intro ?_ ?_ | omega)
  ·show gRun _ _ _ _ _ z36 (fun st' => Ghost _ _ st' z44)
   rw [ez36, ez44]; simp only [go_sem, seval]; refine fcall_src (hN) rfl rfl ?_; simp only [go_sem, seval]; exact dt_can ⟨rfl, rfl, rfl, rfl, rfl, rfl, rfl, trivial⟩ rfl
  ·show gRun _ _ _ _ _ z37 (fun st' => Ghost _ _ st' z43)
   rw [ez37, ez43]; simp only [go_sem, seval]; repeat' (first | exact dt_can ⟨rfl, rfl, rfl, rfl, rfl, rfl, trivial⟩ rfl | with_reducible refine And.intro ?_ ?_ | omega)
  ·show gRun _ _ _ _ _ z37 (fun st' => Ghost _ _ st' z45)
   rw [ez37, ez45]; simp only [go_sem, seval]; repeat' (first | exact dt_can ⟨rfl, rfl, rfl, rfl, rfl, rfl, rfl, trivial⟩ rfl | with_reducible refine And.intro ?_ ?_ | omega)
  ·show gRun _ _ _ _ _ z38 (fun st' => Ghost _ _ st' z44)
   rw [ez38, ez44]; simp only [go_sem, seval]; repeat' (first | exact dt_can ⟨rfl, rfl, rfl, rfl, rfl, rfl, rfl, trivial⟩ rfl | with_reducible refine And.intro ?_ ?_ | omega)
  ·show gRun _ _ _ _ _ z38 (fun st' => Ghost _ _ st' z45)
   rw [ez38, ez45]; simp only [go_sem, seval]; (try simp only [ed]); repeat' (first | exact dt_can ⟨rfl, rfl, rfl, rfl, rfl, rfl, rfl, trivial⟩ rfl | with_reducible refine And.intro ?_ ?_ | omega)
  ·show gRun _ _ _ _ _ z39 (fun st' => Ghost _ _ st' z45)
   rw [ez39, ez45]; simp only [go_sem, seval]; repeat' (first | exact dt_can ⟨rfl, rfl, rfl, rfl, rfl, rfl, rfl, trivial⟩ rfl | with_reducible refine And.intro ?_ ?_ | omega)
  ·show gRun _ _ _ _ _ z40 (fun st' => Ghost _ _ st' z43)
   rw [ez40, ez43]; simp only [go_sem, seval]; repeat' (first | exact dt_can ⟨rfl, rfl, rfl, rfl, rfl, rfl, trivial⟩ rfl | with_reducible refine And.intro ?_ ?_ | omega)
  ·show gRun _ _ _ _ _ z40 (fun st' => Ghost _ _ st' z46)
   rw [ez40, ez46]; simp only [go_sem, seval]; repeat' (first | exact dt_can ⟨rfl, rfl, rfl, rfl, rfl, trivial⟩ rfl | with_reducible refine And.intro ?_ ?_ | omega)
  ·show gRun _ _ _ _ _ z40 (fun st' => Ghost _ _ st' z47)
   rw [ez40, ez47]; simp only [go_sem, seval]; repeat' (first | exact dt_can ⟨rfl, rfl, rfl, rfl, rfl, rfl, rfl, trivial⟩ rfl | with_reducible refine And.intro ?_ ?_ | omega)
  ·show gRun _ _ _ _ _ z41 (fun st' => Ghost _ _ st' z44)
   rw [ez41, ez44]; simp only [go_sem, seval]; repeat' (first | exact dt_can ⟨rfl, rfl, rfl, rfl, rfl, rfl, rfl, trivial⟩ rfl | with_reducible refine And.intro ?_ ?_ | omega)
  ·show gRun _ _ _ _ _ z41 (fun st' => Ghost _ _ st' z47)
   rw [ez41, ez47]; simp only [go_sem, seval]; (try simp only [ed]); repeat' (first | exact dt_can ⟨rfl, rfl, rfl, rfl, rfl, rfl, rfl, trivial⟩ rfl | with_reducible refine And.intro ?_ ?_ | omega)
  ·show gRun _ _ _ _ _ z42 (fun st' => Ghost _ _ st' z45)
   rw [ez42, ez45]; simp only [go_sem, seval]; repeat' (first | exact dt_can ⟨rfl, rfl, rfl, rfl, rfl, rfl, rfl, trivial⟩ rfl | with_reducible refine And.intro ?_ ?_ | omega)
  ·show gRun _ _ _ _ _ z42 (fun st' => Ghost _ _ st' z47)
   rw [ez42, ez47]; simp only [go_sem, seval]; repeat' (first | exact dt_can ⟨rfl, rfl, rfl, rfl, rfl, rfl, rfl, trivial⟩ rfl | with_reducible refine And.intro ?_ ?_ | omega)
  ·show gRun _ _ _ _ _ z43 (fun st' => Ghost _ _ st' z48)
   rw [ez43, ez48]; simp only [go_sem, seval]; repeat' (first | exact dt_can ⟨rfl, rfl, rfl, rfl, rfl, trivial⟩ rfl | with_reducible refine And.intro ?_ ?_ | omega)
  ·show gRun _ _ _ _ _ z43 (fun st' => Ghost _ _ st' z49)
   rw [ez43, ez49]; simp only [go_sem, seval]; repeat' (first | exact dt_can ⟨rfl, rfl, rfl, rfl, rfl, rfl, rfl, trivial⟩ rfl | with_reducible refine And.intro ?_ ?_ | omega)
  ·show gRun _ _ _ _ _ z44 (fun st' => Ghost _ _ st' z49)
   rw [ez44, ez49]; simp only [go_sem, seval]; (try simp only [ed]); repeat' (first | exact dt_can ⟨rfl, rfl, rfl, rfl, rfl, rfl, rfl, trivial⟩ rfl | with_reducible refine And.intro ?_ ?_ | omega)
  ·show gRun _ _ _ _ _ z45 (fun st' => Ghost _ _ st' z49)
   rw [ez45, ez49]; simp only [go_sem, seval]; repeat' (first | exact dt_can ⟨rfl, rfl, rfl, rfl, rfl, rfl, rfl, trivial⟩ rfl | with_reducible refine And.intro ?_ ?_ | omega)
  ·show gRun _ _ _ _ _ z46 (fun st' => Ghost _ _ st' z48)
   rw [ez46, ez48]; simp only [go_sem, seval]; repeat' (first | exact dt_can ⟨rfl, rfl, rfl, rfl, rfl, trivial⟩ rfl | with_reducible refine And.intro ?_ ?_ | omega)
  ·show gRun _ _ _ _ _ z46 (fun st' => Ghost _ _ st' z50)
   rw [ez46, ez50]; simp only [go_sem, seval]; refine fcall_src (hM) rfl rfl ?_; simp only [go_sem, seval]; exact dt_can ⟨rfl, rfl, rfl, rfl, trivial⟩ rfl
  ·show gRun _ _ _ _ _ z46 (fun st' => Ghost _ _ st' z51)
   rw [ez46, ez51]; simp only [go_sem, seval]; repeat' (first | exact dt_can ⟨rfl, rfl, rfl, rfl, rfl, rfl, trivial⟩ rfl | with_reducible refine And.intro ?_ ?_ | omega)
  ·show gRun _ _ _ _ _ z47 (fun st' => Ghost _ _ st' z49)
   rw [ez47, ez49]; simp only [go_sem, seval]; repeat' (first | exact dt_can ⟨rfl, rfl, rfl, rfl, rfl, rfl, rfl, trivial⟩ rfl | with_reducible refine And.intro ?_ ?_ | omega)
  ·show gRun _ _ _ _ _ z47 (fun st' => Ghost _ _ st' z51)
   rw [ez47, ez51]; simp only [go_sem, seval]; repeat' (first | exact dt_can ⟨rfl, rfl, rfl, rfl, rfl, rfl, trivial⟩ rfl | with_reducible refine And.intro ?_ ?_ | omega)
  ·show gRun _ _ _ _ _ z48 (fun st' => Ghost _ _ st' z52)
   rw [ez48, ez52]; simp only [go_sem, seval]; refine fcall_src (hM) rfl rfl ?_; simp only [go_sem, seval]; exact dt_can ⟨rfl, rfl, rfl, rfl, trivial⟩ rfl
  ·show gRun _ _ _ _ _ z48 (fun st' => Ghost _ _ st' z53)
   rw [ez48, ez53]; simp only [go_sem, seval]; repeat' (first | exact dt_can ⟨rfl, rfl, rfl, rfl, rfl, rfl, trivial⟩ rfl | with_reducible refine And.intro ?_ ?_ | omega)
  ·show gRun _ _ _ _ _ z49 (fun st' => Ghost _ _ st' z53)
   rw [ez49, ez53]; simp only [go_sem, seval]; repeat' (first | exact dt_can ⟨rfl, rfl, rfl, rfl, rfl, rfl, trivial⟩ rfl | with_reducible refine And.intro ?_ ?_ | omega)
  ·show gRun _ _ _ _ _ z50 (fun st' => Ghost _ _ st' z52)
   rw [ez50, ez52]; simp only [go_sem, seval]; repeat' (first | exact dt_can ⟨rfl, rfl, rfl, rfl, trivial⟩ rfl | with_reducible refine And.intro ?_ ?_ | omega)
  ·show gRun _ _ _ _ _ z50 (fun st' => Ghost _ _ st' z54)
   rw [ez50, ez54]; simp only [go_sem, seval]; repeat' (first | exact dt_can ⟨rfl, rfl, rfl, rfl, rfl, trivial⟩ rfl | with_reducible refine And.intro ?_ ?_ | omega)
  ·show gRun _ _ _ _ _ z51 (fun st' => Ghost _ _ st' z53)
   rw [ez51, ez53]; simp only [go_sem, seval]; repeat' (first | exact dt_can ⟨rfl, rfl, rfl, rfl, rfl, rfl, trivial⟩ rfl | with_reducible refine And.intro ?_ ?_ | omega)
  ·show gRun _ _ _ _ _ z51 (fun st' => Ghost _ _ st' z54)
   rw [ez51, ez54]; simp only [go_sem, seval]; refine fcall_src (hM) rfl rfl ?_; simp only [go_sem, seval]; exact dt_can ⟨rfl, rfl, rfl, rfl, rfl, trivial⟩ rfl
  ·show gRun _ _ _ _ _ z52 (fun st' => Ghost _ _ st' z55)
   rw [ez52, ez55]; simp only [go_sem, seval]; repeat' (first | exact dt_can ⟨rfl, rfl, rfl, rfl, rfl, trivial⟩ rfl | with_reducible refine And.intro ?_ ?_ | omega)
  ·show gRun _ _ _ _ _ z53 (fun st' => Ghost _ _ st' z55)
   rw [ez53, ez55]; simp only [go_sem, seval]; refine fcall_src (hM) rfl rfl ?_; simp only [go_sem, seval]; exact dt_can ⟨rfl, rfl, rfl, rfl, rfl, trivial⟩ rfl
  ·show gRun _ _ _ _ _ z54 (fun st' => Ghost _ _ st' z55)
   rw [ez54, ez55]; simp only [go_sem, seval]; repeat' (first | exact dt_can ⟨rfl, rfl, rfl, rfl, rfl, trivial⟩ rfl | with_reducible refine And.intro ?_ ?_ | omega)
  ·show gRun _ _ _ _ _ z54 (fun st' => Ghost _ _ st' z56)
   rw [ez54, ez56]; simp only [go_sem, seval]; repeat' (first | exact dt_can ⟨rfl, rfl, rfl, rfl, trivial⟩ rfl | with_reducible refine And.intro ?_ ?_ | omega | (refine fcall_box (hP) (by simp [Aw.ids]) (by simp [find]) (by simp [closedT, killT_e, killAs, killA, outQ, Aw.ids]) (by simp [killAs, killA, outQ, Aw.ids]) (by simp [Aw.ids]) ?_; simp only [Aw.ids, List.map_cons, List.map_nil, List.filter_cons, List.filter_nil, List.contains_cons, List.contains_nil, Bool.or_false, Bool.or_true, Bool.not_true, Bool.not_false, Nat.reduceBEq, Bool.false_eq_true, if_true, if_false, List.cons_append, List.nil_append]; simp only [go_sem, seval]))
  ·show gRun _ _ _ _ _ z55 (fun st' => Ghost _ _ st' z57)
   rw [ez55, ez57]; simp only [go_sem, seval]; repeat' (first | exact dt_can ⟨rfl, rfl, rfl, rfl, trivial⟩ rfl | with_reducible refine And.intro ?_ ?_ | omega | (refine fcall_box (hP) (by simp [Aw.ids]) (by simp [find]) (by simp [closedT, killT_e, killAs, killA, outQ, Aw.ids]) (by simp [killAs, killA, outQ, Aw.ids]) (by simp [Aw.ids]) ?_; simp only [Aw.ids, List.map_cons, List.map_nil, List.filter_cons, List.filter_nil, List.contains_cons, List.contains_nil, Bool.or_false, Bool.or_true, Bool.not_true, Bool.not_false, Nat.reduceBEq, Bool.false_eq_true, if_true, if_false, List.cons_append, List.nil_append]; simp only [go_sem, seval]))
  ·show gRun _ _ _ _ _ z56 (fun st' => Ghost _ _ st' z57)
   rw [ez56, ez57]; simp only [go_sem, seval]; repeat' (first | exact dt_can ⟨rfl, rfl, rfl, rfl, trivial⟩ rfl | with_reducible refine And.intro ?_ ?_ | omega)
  ·show gRun _ _ _ _ _ z57 (fun st' => Ghost _ _ st' z58)
   rw [ez57, ez58]; simp only [go_sem, seval]; repeat' (first | exact dt_can ⟨rfl, rfl, rfl, trivial⟩ rfl | with_reducible refine And.intro ?_ ?_ | omega)
  ·show gRun _ _ _ _ _ z58 (fun st' => Ghost _ _ st' z59)
   rw [ez58, ez59]; simp only [go_sem, seval]; exact dt_can ⟨rfl, rfl, rfl, trivial⟩ rfl
  ·show gRun _ _ _ _ _ z59 (fun st' => Ghost _ _ st' z60)
   rw [ez59, ez60]; simp only [go_sem, seval]; exact dt_can ⟨rfl, rfl, rfl, trivial⟩ rfl
 show ATs _ _ _ _ _ z60
 rw [ez60]
 clear ez0 ez1 ez2 ez3 ez4 ez5 ez6 ez7 ez8 ez9 ez10 ez11 ez12 ez13 ez14 ez15 ez16 ez17 ez18 ez19 ez20 ez21 ez22 ez23 ez24 ez25 ez26 ez27 ez28 ez29 ez30 ez31 ez32 ez33 ez34 ez35 ez36 ez37 ez38 ez39 ez40 ez41 ez42 ez43 ez44 ez45 ez46 ez47 ez48 ez49 ez50 ez51 ez52 ez53 ez54 ez55 ez56 ez57 ez58 ez59 ez60 z0 z1 z2 z3 z4 z5 z6 z7 z8 z9 z10 z11 z12 z13 z14 z15 z16 z17 z18 z19 z20 z21 z22 z23 z24 z25 z26 z27 z28 z29 z30 z31 z32 z33 z34 z35 z36 z37 z38 z39 z40 z41 z42 z43 z44 z45 z46 z47 z48 z49 z50 z51 z52 z53 z54 z55 z56 z57 z58 z59 z60
 exact ats_ret ⟨.inr rfl, .tup [.agg [.l3 t], .int r.1, .int v], by simp only [resL, resA, go_sem, seval], rfl⟩
end Go.Proofs.Ytppoaacplncppaa
namespace Go.Proofs.Ytppoaacplncppaa
open Go Go.Aw Go.Pl
attribute [local go_sem] pl_fin pl_stop pl_one pl_alt PK_ap pickO List.getElem?_toArray List.getElem?_cons_zero List.getElem?_cons_succ
theorem big_ok (c : List Int) : PureCall Try.prog 5 [.lv (bsV c)] (.bool (decide (4096 < c.length))) := by
 have hl := bsV_len (c := c)
 refine PureCall.intro (n := 6) (rs := [.tmp 2]) Try.call5 Try.func5 rfl rfl rfl (by simp only [List.length_cons, List.length_nil]; omega) (fun cx hcx => ats_of ?_); simp only [argSlots, Nat.zero_add, Nat.reduceAdd]
 (repeat refine ats_seq ?_); refine ats_go (by first | exact fix0 hcx | exact fixN hcx rfl) fun K hK => ?_; simp only [go_sem, seval]; (repeat refine aI (hb := ?_)); refine hK _ ?_; clear hK K
 (repeat refine ats_seq ?_); refine ats_go (by first | exact fix0 hcx | exact fixN hcx rfl) fun K hK => ?_; simp only [go_sem, seval]; (repeat refine aI (hb := ?_)); refine hK _ ?_; clear hK K
 refine ats_ret (finB rfl ?_)
 rw [decide_eq_decide]
 omega
theorem likeInts_ok (xs ys : List Int) : PureCall Try.prog 9 [.l1 xs, .l1 ys] (.bool (decide (xs = ys))) := by
 refine PureCall.intro (n := 26) (rs := [.tmp 4]) Try.call9 Try.func9 rfl rfl rfl (by simp only [List.length_cons, List.length_nil]; omega) (fun cx hcx => ats_of ?_); simp only [argSlots, Nat.zero_add, Nat.reduceAdd]
 (repeat refine ats_seq ?_); refine ats_go (by first | exact fix0 hcx | exact fixN hcx rfl) fun K hK => ?_; simp only [go_sem, seval]; (repeat refine aI (hb := ?_)); refine hK _ ?_; clear hK K
 refine ats_know 0 fun h0 => ?_; simp only [St.get, slotGet, Nat.reduceEqDiff, ↓reduceIte, if_true, fact, facts] at h0
 refine ats_know 1 fun h1 => ?_; simp only [St.get, slotGet, Nat.reduceEqDiff, ↓reduceIte, if_true, fact, facts] at h1
 have lx := h0.1
 have ly := h1.1
 (repeat refine ats_seq ?_); refine ats_go (by first | exact fix0 hcx | exact fixN hcx rfl) fun K hK => ?_; simp only [go_sem, seval]; (repeat refine aI (hb := ?_)); refine hK _ ?_; clear hK K
 (repeat refine ats_seq ?_); first | refine ats_ifn (p := _) rfl trivial (fun hl => ?_) (fun hl => ?_) | refine ats_ifp (p := _) rfl trivial (fun hl => ?_) (fun hl => ?_) | refine ats_cond rfl trivial (fun hl => ?_) (fun hl => ?_)
 ·(repeat refine ats_seq ?_); refine ats_go (by first | exact fix0 hcx | exact fixN hcx rfl) fun K hK => ?_; simp only [go_sem, seval]; (repeat refine aI (hb := ?_)); refine hK _ ?_; clear hK K
  refine ats_ret (finB rfl ?_)
  exact (decide_eq_false (fun h => hl (by rw [h]))).symm
 ·have el : xs.length = ys.length := by omega
  refine ats_skip ?_
  (repeat refine ats_seq ?_); refine ats_go (by first | exact fix0 hcx | exact fixN hcx rfl) fun K hK => ?_; simp only [go_sem, seval]; (repeat refine aI (hb := ?_)); refine hK _ ?_; clear hK K
  (repeat refine ats_seq ?_); refine ats_loop (fun i : Nat => ⟨[(0, .l1 xs), (1, .l1 ys), (5, .int i)], []⟩) (fun i => i ≤ xs.length ∧ ∀ b, b < i → xs.getD b 0 = ys.getD b 0) (fun i => xs.length - i) 0 ⟨Nat.zero_le _, fun a h => absurd h (Nat.not_lt_zero a)⟩ (by refine And.intro ?_ rfl; simp only [leS, Nat.reduceEqDiff, ↓reduceIte, true_and, and_true]; rfl) (fun i hi => ?_); obtain ⟨hi, Hi⟩ := hi
  (repeat refine ats_seq ?_); refine ats_go (by first | exact fix0 hcx | exact fixN hcx rfl) fun K hK => ?_; simp only [go_sem, seval]; (repeat refine aI (hb := ?_)); refine hK _ ?_; clear hK K
  (repeat refine ats_seq ?_); first | refine ats_ifn (p := _) rfl trivial (fun h2 => ?_) (fun h2 => ?_) | refine ats_ifp (p := _) rfl trivial (fun h2 => ?_) (fun h2 => ?_) | refine ats_cond rfl trivial (fun h2 => ?_) (fun h2 => ?_)
  ·refine ats_skip ?_
   (repeat refine ats_seq ?_); refine ats_block ?_
   (repeat refine ats_seq ?_); refine ats_pick (by first | exact fix0 hcx | exact fixN hcx rfl) mixed (by kernel_rfl) fun K hK => ?_; simp only [go_sem, seval]; (repeat refine aI (hb := ?_)); refine hK _ ?_; clear hK K
   (repeat refine ats_seq ?_); first | refine ats_ifn (p := _) rfl trivial (fun h3 => ?_) (fun h3 => ?_) | refine ats_ifp (p := _) rfl trivial (fun h3 => ?_) (fun h3 => ?_) | refine ats_cond rfl trivial (fun h3 => ?_) (fun h3 => ?_)
   ·(repeat refine ats_seq ?_); refine ats_go (by first | exact fix0 hcx | exact fixN hcx rfl) fun K hK => ?_; simp only [go_sem, seval]; (repeat refine aI (hb := ?_)); refine hK _ ?_; clear hK K
    refine ats_ret (finB rfl ?_)
    exact (decide_eq_false (fun h => h3 (by rw [h]))).symm
   ·refine ats_skip ?_
    (repeat refine ats_seq ?_); refine ats_go (by first | exact fix0 hcx | exact fixN hcx rfl) fun K hK => ?_; simp only [go_sem, seval]; (repeat refine aI (hb := ?_)); refine hK _ ?_; clear hK K
    refine ⟨i + 1, ⟨by omega, fun a ha => by rcases Nat.lt_succ_iff_lt_or_eq.1 ha with h | rfl; exact Hi a h; exact (by omega)⟩, by omega, .inl ⟨?_, rfl⟩⟩; simp only [leS, Nat.reduceEqDiff, ↓reduceIte, true_and, and_true]; omega
  ·refine ats_exit (lq_x ?_)
   (repeat refine ats_seq ?_); refine ats_go (by first | exact fix0 hcx | exact fixN hcx rfl) fun K hK => ?_; simp only [go_sem, seval]; (repeat refine aI (hb := ?_)); refine hK _ ?_; clear hK K
   refine ats_ret (finB rfl ?_)
   refine (decide_eq_true (List.ext_getElem el fun j j1 j2 => ?_)).symm
   have := Hi j (by omega)
   rw [List.getD_eq_getElem?_getD, List.getElem?_eq_getElem j1, List.getD_eq_getElem?_getD, List.getElem?_eq_getElem j2] at this
   simpa using this
theorem same9_ok (xs ys : List (List Int)) : PureCall Try.prog 51 [.l2 xs, .l2 ys] (.bool (decide (xs = ys))) := by
 refine PureCall.intro (n := 27) (rs := [.tmp 4]) Try.call51 Try.func51 rfl rfl rfl (by simp only [List.length_cons, List.length_nil]; omega) (fun cx hcx => ats_of ?_); simp only [argSlots, Nat.zero_add, Nat.reduceAdd]
 (repeat refine ats_seq ?_); refine ats_go (by first | exact fix0 hcx | exact fixN hcx rfl) fun K hK => ?_; simp only [go_sem, seval]; (repeat refine aI (hb := ?_)); refine hK _ ?_; clear hK K
 refine ats_know 0 fun h0 => ?_; simp only [St.get, slotGet, Nat.reduceEqDiff, ↓reduceIte, if_true, fact, facts] at h0
 refine ats_know 1 fun h1 => ?_; simp only [St.get, slotGet, Nat.reduceEqDiff, ↓reduceIte, if_true, fact, facts] at h1
 have lx := h0.1
 have ly := h1.1
 (repeat refine ats_seq ?_); refine ats_go (by first | exact fix0 hcx | exact fixN hcx rfl) fun K hK => ?_; simp only [go_sem, seval]; (repeat refine aI (hb := ?_)); refine hK _ ?_; clear hK K
 (repeat refine ats_seq ?_); first | refine ats_ifn (p := _) rfl trivial (fun hl => ?_) (fun hl => ?_) | refine ats_ifp (p := _) rfl trivial (fun hl => ?_) (fun hl => ?_) | refine ats_cond rfl trivial (fun hl => ?_) (fun hl => ?_)
 ·(repeat refine ats_seq ?_); refine ats_go (by first | exact fix0 hcx | exact fixN hcx rfl) fun K hK => ?_; simp only [go_sem, seval]; (repeat refine aI (hb := ?_)); refine hK _ ?_; clear hK K
  refine ats_ret (finB rfl ?_)
  exact (decide_eq_false (fun h => hl (by rw [h]))).symm
 ·have el : xs.length = ys.length := by omega
  refine ats_skip ?_
  (repeat refine ats_seq ?_); refine ats_go (by first | exact fix0 hcx | exact fixN hcx rfl) fun K hK => ?_; simp only [go_sem, seval]; (repeat refine aI (hb := ?_)); refine hK _ ?_; clear hK K
  (repeat refine ats_seq ?_); refine ats_loop (fun i : Nat => ⟨[(0, .l2 xs), (1, .l2 ys), (5, .int i)], []⟩) (fun i => i ≤ xs.length ∧ ∀ b, b < i → xs.getD b [] = ys.getD b []) (fun i => xs.length - i) 0 ⟨Nat.zero_le _, fun a h => absurd h (Nat.not_lt_zero a)⟩ (by refine And.intro ?_ rfl; simp only [leS, Nat.reduceEqDiff, ↓reduceIte, true_and, and_true]; rfl) (fun i hi => ?_); obtain ⟨hi, Hi⟩ := hi
  (repeat refine ats_seq ?_); refine ats_go (by first | exact fix0 hcx | exact fixN hcx rfl) fun K hK => ?_; simp only [go_sem, seval]; (repeat refine aI (hb := ?_)); refine hK _ ?_; clear hK K
  (repeat refine ats_seq ?_); first | refine ats_ifn (p := _) rfl trivial (fun h2 => ?_) (fun h2 => ?_) | refine ats_ifp (p := _) rfl trivial (fun h2 => ?_) (fun h2 => ?_) | refine ats_cond rfl trivial (fun h2 => ?_) (fun h2 => ?_)
  ·have hk := likeInts_ok (xs.getD i []) (ys.getD i [])
   refine ats_skip ?_
   (repeat refine ats_seq ?_); refine ats_block ?_
   by_cases e : xs.getD i [] = ys.getD i []
   ·rw [decide_eq_true e] at hk
    (repeat refine ats_seq ?_); refine ats_pick (by first | exact fix0 hcx | exact fixN hcx rfl) mixed (by kernel_rfl) fun K hK => ?_; simp only [go_sem, seval]
    (repeat refine aI (hb := ?_))
    first | refine fcall_free rfl rfl (hk) ?_ | refine YR_intro (acall_free rfl rfl (hk)) ?_
    simp only [go_sem, seval]
    refine hK _ ?_; clear hK K
    (repeat refine ats_seq ?_); refine ats_no rfl trivial ?_
    refine ats_skip ?_
    (repeat refine ats_seq ?_); refine ats_go (by first | exact fix0 hcx | exact fixN hcx rfl) fun K hK => ?_; simp only [go_sem, seval]; (repeat refine aI (hb := ?_)); refine hK _ ?_; clear hK K
    refine ⟨i + 1, ⟨by omega, fun a ha => by rcases Nat.lt_succ_iff_lt_or_eq.1 ha with h | rfl; exact Hi a h; exact e⟩, by omega, .inl ⟨?_, rfl⟩⟩; simp only [leS, Nat.reduceEqDiff, ↓reduceIte, true_and, and_true]; omega
   ·rw [decide_eq_false e] at hk
    (repeat refine ats_seq ?_); refine ats_pick (by first | exact fix0 hcx | exact fixN hcx rfl) mixed (by kernel_rfl) fun K hK => ?_; simp only [go_sem, seval]
    (repeat refine aI (hb := ?_))
    first | refine fcall_free rfl rfl (hk) ?_ | refine YR_intro (acall_free rfl rfl (hk)) ?_
    simp only [go_sem, seval]
    refine hK _ ?_; clear hK K
    (repeat refine ats_seq ?_); refine ats_yes rfl trivial ?_
    (repeat refine ats_seq ?_); refine ats_go (by first | exact fix0 hcx | exact fixN hcx rfl) fun K hK => ?_; simp only [go_sem, seval]; (repeat refine aI (hb := ?_)); refine hK _ ?_; clear hK K
    refine ats_ret (finB rfl ?_)
    exact (decide_eq_false (fun h => e (by rw [h]))).symm
  ·refine ats_exit (lq_x ?_)
   (repeat refine ats_seq ?_); refine ats_go (by first | exact fix0 hcx | exact fixN hcx rfl) fun K hK => ?_; simp only [go_sem, seval]; (repeat refine aI (hb := ?_)); refine hK _ ?_; clear hK K
   refine ats_ret (finB rfl ?_)
   refine (decide_eq_true (List.ext_getElem el fun j j1 j2 => ?_)).symm
   have := Hi j (by omega)
   rw [List.getD_eq_getElem?_getD, List.getElem?_eq_getElem j1, List.getD_eq_getElem?_getD, List.getElem?_eq_getElem j2] at this
   simpa using this
theorem ring9_ok (xs ys : Cu) : PureCall Try.prog 23 [.agg [.l3 xs], .agg [.l3 ys]] (.bool (decide (xs = ys))) := by
 refine PureCall.intro (n := 32) (rs := [.tmp 4]) Try.call23 Try.func23 rfl rfl rfl (by simp only [List.length_cons, List.length_nil]; omega) (fun cx hcx => ats_of ?_); simp only [argSlots, Nat.zero_add, Nat.reduceAdd]
 (repeat refine ats_seq ?_); refine ats_go (by first | exact fix0 hcx | exact fixN hcx rfl) fun K hK => ?_; simp only [go_sem, seval]; (repeat refine aI (hb := ?_)); refine hK _ ?_; clear hK K
 refine ats_knowT 0 fun h0 => ?_; simp only [find, Nat.reduceEqDiff, ↓reduceIte, if_true, factT, fact, facts] at h0
 refine ats_knowT 1 fun h1 => ?_; simp only [find, Nat.reduceEqDiff, ↓reduceIte, if_true, factT, fact, facts] at h1
 have lx := h0.1.1
 have ly := h1.1.1
 (repeat refine ats_seq ?_); refine ats_go (by first | exact fix0 hcx | exact fixN hcx rfl) fun K hK => ?_; simp only [go_sem, seval]; (repeat refine aI (hb := ?_)); refine hK _ ?_; clear hK K
 (repeat refine ats_seq ?_); first | refine ats_ifn (p := _) rfl trivial (fun hl => ?_) (fun hl => ?_) | refine ats_ifp (p := _) rfl trivial (fun hl => ?_) (fun hl => ?_) | refine ats_cond rfl trivial (fun hl => ?_) (fun hl => ?_)
 ·(repeat refine ats_seq ?_); refine ats_go (by first | exact fix0 hcx | exact fixN hcx rfl) fun K hK => ?_; simp only [go_sem, seval]; (repeat refine aI (hb := ?_)); refine hK _ ?_; clear hK K
  refine ats_ret (finB rfl ?_)
  exact (decide_eq_false (fun h => hl (by rw [h]))).symm
 ·have el : xs.length = ys.length := by omega
  refine ats_skip ?_
  (repeat refine ats_seq ?_); refine ats_go (by first | exact fix0 hcx | exact fixN hcx rfl) fun K hK => ?_; simp only [go_sem, seval]; (repeat refine aI (hb := ?_)); refine hK _ ?_; clear hK K
  (repeat refine ats_seq ?_); refine ats_loop (fun i : Nat => ⟨[(2, .bptr 0 0), (3, .bptr 1 0), (5, .int i)], [(0, .bx [.l3 xs]), (1, .bx [.l3 ys])]⟩) (fun i => i ≤ xs.length ∧ ∀ b, b < i → xs.getD b [] = ys.getD b []) (fun i => xs.length - i) 0 ⟨Nat.zero_le _, fun a h => absurd h (Nat.not_lt_zero a)⟩ (by refine And.intro ?_ rfl; simp only [leS, Nat.reduceEqDiff, ↓reduceIte, true_and, and_true]; rfl) (fun i hi => ?_); obtain ⟨hi, Hi⟩ := hi
  (repeat refine ats_seq ?_); refine ats_go (by first | exact fix0 hcx | exact fixN hcx rfl) fun K hK => ?_; simp only [go_sem, seval]; (repeat refine aI (hb := ?_)); refine hK _ ?_; clear hK K
  (repeat refine ats_seq ?_); first | refine ats_ifn (p := _) rfl trivial (fun h2 => ?_) (fun h2 => ?_) | refine ats_ifp (p := _) rfl trivial (fun h2 => ?_) (fun h2 => ?_) | refine ats_cond rfl trivial (fun h2 => ?_) (fun h2 => ?_)
  ·have hk := same9_ok (xs.getD i []) (ys.getD i [])
   refine ats_skip ?_
   (repeat refine ats_seq ?_); refine ats_block ?_
   by_cases e : xs.getD i [] = ys.getD i []
   ·rw [decide_eq_true e] at hk
    (repeat refine ats_seq ?_); refine ats_pick (by first | exact fix0 hcx | exact fixN hcx rfl) mixed (by kernel_rfl) fun K hK => ?_; simp only [go_sem, seval]
    (repeat refine aI (hb := ?_))
    first | refine fcall_free rfl rfl (hk) ?_ | refine YR_intro (acall_free rfl rfl (hk)) ?_
    simp only [go_sem, seval]
    refine hK _ ?_; clear hK K
    (repeat refine ats_seq ?_); refine ats_no rfl trivial ?_
    refine ats_skip ?_
    (repeat refine ats_seq ?_); refine ats_go (by first | exact fix0 hcx | exact fixN hcx rfl) fun K hK => ?_; simp only [go_sem, seval]; (repeat refine aI (hb := ?_)); refine hK _ ?_; clear hK K
    refine ⟨i + 1, ⟨by omega, fun a ha => by rcases Nat.lt_succ_iff_lt_or_eq.1 ha with h | rfl; exact Hi a h; exact e⟩, by omega, .inl ⟨?_, rfl⟩⟩; simp only [leS, Nat.reduceEqDiff, ↓reduceIte, true_and, and_true]; omega
   ·rw [decide_eq_false e] at hk
    (repeat refine ats_seq ?_); refine ats_pick (by first | exact fix0 hcx | exact fixN hcx rfl) mixed (by kernel_rfl) fun K hK => ?_; simp only [go_sem, seval]
    (repeat refine aI (hb := ?_))
    first | refine fcall_free rfl rfl (hk) ?_ | refine YR_intro (acall_free rfl rfl (hk)) ?_
    simp only [go_sem, seval]
    refine hK _ ?_; clear hK K
    (repeat refine ats_seq ?_); refine ats_yes rfl trivial ?_
    (repeat refine ats_seq ?_); refine ats_go (by first | exact fix0 hcx | exact fixN hcx rfl) fun K hK => ?_; simp only [go_sem, seval]; (repeat refine aI (hb := ?_)); refine hK _ ?_; clear hK K
    refine ats_ret (finB rfl ?_)
    exact (decide_eq_false (fun h => e (by rw [h]))).symm
  ·refine ats_exit (lq_x ?_)
   (repeat refine ats_seq ?_); refine ats_go (by first | exact fix0 hcx | exact fixN hcx rfl) fun K hK => ?_; simp only [go_sem, seval]; (repeat refine aI (hb := ?_)); refine hK _ ?_; clear hK K
   refine ats_ret (finB rfl ?_)
   refine (decide_eq_true (List.ext_getElem el fun j j1 j2 => ?_)).symm
   have := Hi j (by omega)
   rw [List.getD_eq_getElem?_getD, List.getElem?_eq_getElem j1, List.getD_eq_getElem?_getD, List.getElem?_eq_getElem j2] at this
   simpa using this
theorem belowB_ok (s : Src) (hs : s.Ok) (n : Int) (hn : n ≤ 1099511627776) : OwnCall Try.prog 26 [.bptr 0 0, .int n] (TS s) (TS (nx s n).2) (.int (nx s n).1) [0] := by
 obtain ⟨hl, hb, hp, hh⟩ := hs
 unfold nx TS
 by_cases h1 : n < 1
 ·rw [if_pos h1]
  dsimp only
  refine OwnCall.intro (n := 58) (rs := [.tmp 4]) 2 [0] (X := [0]) Try.call26 Try.func26 rfl rfl rfl (by simp only [List.length_cons, List.length_nil]; omega) (by simp [Aw.ids, rootsA, rootsAs, argSlots, slotGet]) (fun cx hcx => AT.weakG (ats_of ?_)); simp only [argSlots, Nat.zero_add, Nat.reduceAdd]
  (repeat refine ats_seq ?_); refine ats_go (by first | exact fix0 hcx | exact fix1 hcx rfl | exact fixN hcx rfl) fun K hK => ?_; simp only [go_sem, seval]; (repeat refine aI (hb := ?_)); refine hK _ ?_; clear hK K
  (repeat refine ats_seq ?_); refine ats_go (by first | exact fix0 hcx | exact fix1 hcx rfl | exact fixN hcx rfl) fun K hK => ?_; simp only [go_sem, seval]; (repeat refine aI (hb := ?_)); refine hK _ ?_; clear hK K
  (repeat refine ats_seq ?_); first | refine ats_ifn (p := _) rfl trivial (fun h => ?_) (fun h => ?_) | refine ats_ifp (p := _) rfl trivial (fun h => ?_) (fun h => ?_) | refine ats_cond rfl trivial (fun h => ?_) (fun h => ?_)
  ·(repeat refine ats_seq ?_); refine ats_go (by first | exact fix0 hcx | exact fix1 hcx rfl | exact fixN hcx rfl) fun K hK => ?_; simp only [go_sem, seval]; (repeat refine aI (hb := ?_)); refine hK _ ?_; clear hK K
   refine ats_ret ⟨⟨[(0, .bptr 0 0), (4, .int 0)], [(0, .bx [.lv (bsV s.code), .int s.pos, .ik .u64 s.h])]⟩, ghost_to [] [], .inr rfl, (by first | rfl | exact ⟨trivial, rfl⟩ | (simp only [resL, resA, go_sem, seval]; done)), (by simp [St.get, slotGet, argSlots]), rfl⟩
  ·omega
 ·rw [if_neg h1]
  have bx := nxX_bd (nxH s.h)
  have bh := nxH_bd s.h
  have et : ∀ x : Int, 0 ≤ x → x.tmod n = x % n := fun x hx => Int.tmod_eq_emod_of_nonneg hx
  by_cases h2 : s.pos < s.code.length
  ·rw [if_pos h2]
   have hb2 := hb _ h2
   have e1 := et (nxX (nxH s.h) + s.code.getD s.pos 0) (by omega)
   have m1 := Int.emod_nonneg (nxX (nxH s.h) + s.code.getD s.pos 0) (show n ≠ 0 by omega)
   have m2 := Int.emod_lt_of_pos (nxX (nxH s.h) + s.code.getD s.pos 0) (show 0 < n by omega)
   dsimp only
   rw [show ((s.pos + 1 : Nat) : Int) = (s.pos : Int) + 1 by push_cast; rfl]
   refine OwnCall.intro (n := 58) (rs := [.tmp 4]) 2 [0] (X := [0]) Try.call26 Try.func26 rfl rfl rfl (by simp only [List.length_cons, List.length_nil]; omega) (by simp [Aw.ids, rootsA, rootsAs, argSlots, slotGet]) (fun cx hcx => AT.weakG (ats_of ?_)); simp only [argSlots, Nat.zero_add, Nat.reduceAdd]
   (repeat refine ats_seq ?_); refine ats_go (by first | exact fix0 hcx | exact fix1 hcx rfl | exact fixN hcx rfl) fun K hK => ?_; simp only [go_sem, seval]; (repeat refine aI (hb := ?_)); refine hK _ ?_; clear hK K
   (repeat refine ats_seq ?_); refine ats_go (by first | exact fix0 hcx | exact fix1 hcx rfl | exact fixN hcx rfl) fun K hK => ?_; simp only [go_sem, seval]; (repeat refine aI (hb := ?_)); refine hK _ ?_; clear hK K
   (repeat refine ats_seq ?_); first | refine ats_ifn (p := _) rfl trivial (fun h => ?_) (fun h => ?_) | refine ats_ifp (p := _) rfl trivial (fun h => ?_) (fun h => ?_) | refine ats_cond rfl trivial (fun h => ?_) (fun h => ?_)
   ·omega
   ·refine ats_skip ?_
    (repeat refine ats_seq ?_); refine ats_go (by first | exact fix0 hcx | exact fix1 hcx rfl | exact fixN hcx rfl) fun K hK => ?_; simp only [go_sem, seval]
    simp only [nxH_eq]
    refine hK _ ?_; clear hK K
    (repeat refine ats_seq ?_); refine ats_go (by first | exact fix0 hcx | exact fix1 hcx rfl | exact fixN hcx rfl) fun K hK => ?_; simp only [go_sem, seval]
    simp only [nxX_eq]
    (repeat refine aI (hb := ?_))
    refine hK _ ?_; clear hK K
    (repeat refine ats_seq ?_); refine AT.ghost (st' := ⟨[(0, .bptr 0 0), (1, .int n), (5, .int (nxX (nxH s.h)))], [(0, .bx [.lv (bsV s.code), .int s.pos, .ik .u64 (nxH s.h)])]⟩) (ghost_can [] (by simp only [go_sem, seval, AV.int.injEq, AV.bool.injEq, AV.l1.injEq, AV.l2.injEq, AV.l3.injEq]) (by simp only [go_sem, seval])) ?_
    (repeat refine ats_seq ?_); refine ats_pick (by first | exact fix0 hcx | exact fixN hcx rfl) mixed (by kernel_rfl) fun K hK => ?_; simp only [go_sem, seval]; (repeat refine aI (hb := ?_)); refine hK _ ?_; clear hK K
    (repeat refine ats_seq ?_); first | refine ats_ifn (p := _) rfl trivial (fun h3 => ?_) (fun h3 => ?_) | refine ats_ifp (p := _) rfl trivial (fun h3 => ?_) (fun h3 => ?_) | refine ats_cond rfl trivial (fun h3 => ?_) (fun h3 => ?_)
    ·(repeat refine ats_seq ?_); refine ats_pick (by first | exact fix0 hcx | exact fixN hcx rfl) mixed (by kernel_rfl) fun K hK => ?_; simp only [go_sem, seval]
     simp only [bsV_get h2]
     simp only [go_sem, seval]
     (repeat refine aI (hb := ?_))
     refine hK _ ?_; clear hK K
     (repeat refine ats_seq ?_); refine ats_go (by first | exact fix0 hcx | exact fix1 hcx rfl | exact fixN hcx rfl) fun K hK => ?_; simp only [go_sem, seval]; (repeat refine aI (hb := ?_)); refine hK _ ?_; clear hK K
     (repeat refine ats_seq ?_); refine ats_go (by first | exact fix0 hcx | exact fix1 hcx rfl | exact fixN hcx rfl) fun K hK => ?_; simp only [go_sem, seval]
     simp only [e1]
     (repeat refine aI (hb := ?_))
     refine hK _ ?_; clear hK K
     refine ats_ret ⟨⟨[(0, .bptr 0 0), (4, .int ((nxX (nxH s.h) + s.code.getD s.pos 0) % n))], [(0, .bx [.lv (bsV s.code), .int ((s.pos : Int) + 1), .ik .u64 (nxH s.h)])]⟩, ghost_to [] [], .inr rfl, (by first | rfl | exact ⟨trivial, rfl⟩ | (simp only [resL, resA, go_sem, seval]; done)), (by simp [St.get, slotGet, argSlots]), rfl⟩
    ·omega
  ·rw [if_neg h2]
   have e1 := et (nxX (nxH s.h)) (by omega)
   have m1 := Int.emod_nonneg (nxX (nxH s.h)) (show n ≠ 0 by omega)
   have m2 := Int.emod_lt_of_pos (nxX (nxH s.h)) (show 0 < n by omega)
   dsimp only
   refine OwnCall.intro (n := 58) (rs := [.tmp 4]) 2 [0] (X := [0]) Try.call26 Try.func26 rfl rfl rfl (by simp only [List.length_cons, List.length_nil]; omega) (by simp [Aw.ids, rootsA, rootsAs, argSlots, slotGet]) (fun cx hcx => AT.weakG (ats_of ?_)); simp only [argSlots, Nat.zero_add, Nat.reduceAdd]
   (repeat refine ats_seq ?_); refine ats_go (by first | exact fix0 hcx | exact fix1 hcx rfl | exact fixN hcx rfl) fun K hK => ?_; simp only [go_sem, seval]; (repeat refine aI (hb := ?_)); refine hK _ ?_; clear hK K
   (repeat refine ats_seq ?_); refine ats_go (by first | exact fix0 hcx | exact fix1 hcx rfl | exact fixN hcx rfl) fun K hK => ?_; simp only [go_sem, seval]; (repeat refine aI (hb := ?_)); refine hK _ ?_; clear hK K
   (repeat refine ats_seq ?_); first | refine ats_ifn (p := _) rfl trivial (fun h => ?_) (fun h => ?_) | refine ats_ifp (p := _) rfl trivial (fun h => ?_) (fun h => ?_) | refine ats_cond rfl trivial (fun h => ?_) (fun h => ?_)
   ·omega
   ·refine ats_skip ?_
    (repeat refine ats_seq ?_); refine ats_go (by first | exact fix0 hcx | exact fix1 hcx rfl | exact fixN hcx rfl) fun K hK => ?_; simp only [go_sem, seval]
    simp only [nxH_eq]
    refine hK _ ?_; clear hK K
    (repeat refine ats_seq ?_); refine ats_go (by first | exact fix0 hcx | exact fix1 hcx rfl | exact fixN hcx rfl) fun K hK => ?_; simp only [go_sem, seval]
    simp only [nxX_eq]
    (repeat refine aI (hb := ?_))
    refine hK _ ?_; clear hK K
    (repeat refine ats_seq ?_); refine AT.ghost (st' := ⟨[(0, .bptr 0 0), (1, .int n), (5, .int (nxX (nxH s.h)))], [(0, .bx [.lv (bsV s.code), .int s.pos, .ik .u64 (nxH s.h)])]⟩) (ghost_can [] (by simp only [go_sem, seval, AV.int.injEq, AV.bool.injEq, AV.l1.injEq, AV.l2.injEq, AV.l3.injEq]) (by simp only [go_sem, seval])) ?_
    (repeat refine ats_seq ?_); refine ats_pick (by first | exact fix0 hcx | exact fixN hcx rfl) mixed (by kernel_rfl) fun K hK => ?_; simp only [go_sem, seval]; (repeat refine aI (hb := ?_)); refine hK _ ?_; clear hK K
    (repeat refine ats_seq ?_); first | refine ats_ifn (p := _) rfl trivial (fun h3 => ?_) (fun h3 => ?_) | refine ats_ifp (p := _) rfl trivial (fun h3 => ?_) (fun h3 => ?_) | refine ats_cond rfl trivial (fun h3 => ?_) (fun h3 => ?_)
    ·omega
    ·refine ats_skip ?_
     (repeat refine ats_seq ?_); refine ats_go (by first | exact fix0 hcx | exact fix1 hcx rfl | exact fixN hcx rfl) fun K hK => ?_; simp only [go_sem, seval]
     simp only [e1]
     (repeat refine aI (hb := ?_))
     refine hK _ ?_; clear hK K
     refine ats_ret ⟨⟨[(0, .bptr 0 0), (4, .int (nxX (nxH s.h) % n))], [(0, .bx [.lv (bsV s.code), .int s.pos, .ik .u64 (nxH s.h)])]⟩, ghost_to [] [], .inr rfl, (by first | rfl | exact ⟨trivial, rfl⟩ | (simp only [resL, resA, go_sem, seval]; done)), (by simp [St.get, slotGet, argSlots]), rfl⟩
theorem below_ok (s : Src) (hs : s.Ok) (n : Int) (hn : n ≤ 1099511627776) : OwnCall Try.prog 26 [.bptr 0 0, .int n] [(0, srcB s)] [(0, srcB (nx s n).2)] (.int (nx s n).1) [0] := belowB_ok s hs n hn
def rlH (c : List Int) (seed : Int) : Nat → Int
 | 0 => (seed * 6007 % 18446744073709551616 + (c.length : Int) % 18446744073709551616) % 18446744073709551616
 | i + 1 => ((rlH c seed i * 1099511628211 % 18446744073709551616 + c.getD i 0 % 18446744073709551616) % 18446744073709551616 + 5) % 18446744073709551616
def rlS (c : List Int) (seed : Int) : Src := ⟨c, 0, rlH c seed c.length⟩
theorem rlH_bd (c : List Int) (seed : Int) : ∀ i, 0 ≤ rlH c seed i ∧ rlH c seed i < 18446744073709551616
 | 0 => by unfold rlH; omega
 | i + 1 => by unfold rlH; omega
theorem rlS_ok {c : List Int} {seed : Int} (hc : CodeOk c) : (rlS c seed).Ok := ⟨hc.len, hc.byte, Nat.zero_le _, rlH_bd _ _ _⟩
theorem roll_ok (c : List Int) (hc : CodeOk c) (seed : Int) : OwnCall Try.prog 15 [.lv (bsV c), .ik .u64 seed] [] [(0, srcB (rlS c seed))] (.bptr 0 0) [] := by
 have hl := hc.len
 have hb := hc.byte
 unfold srcB rlS
 dsimp only
 obtain ⟨N, eN⟩ : ∃ N, c.length = N := ⟨_, rfl⟩
 have lb : (bsV c).length = N := by rw [bsV_len, eN]
 rw [eN] at hl ⊢
 refine OwnCall.intro (n := 38) (rs := [.tmp 4]) 2 [0] (X := []) Try.call15 Try.func15 rfl rfl rfl (by simp only [List.length_cons, List.length_nil]; omega) (by simp [Aw.ids, rootsA, rootsAs, argSlots, slotGet]) (fun cx hcx => AT.weakG (ats_of ?_)); simp only [argSlots, Nat.zero_add, Nat.reduceAdd]
 (repeat refine ats_seq ?_); refine ats_go (by first | exact fix0 hcx | exact fix1 hcx rfl | exact fixN hcx rfl) fun K hK => ?_; simp only [go_sem, seval]; (repeat refine aI (hb := ?_)); refine hK _ ?_; clear hK K
 (repeat refine ats_seq ?_); refine ats_go (by first | exact fix0 hcx | exact fix1 hcx rfl | exact fixN hcx rfl) fun K hK => ?_; simp only [go_sem, seval]; (repeat refine aI (hb := ?_)); refine hK _ ?_; clear hK K
 (repeat refine ats_seq ?_); refine ats_go (by first | exact fix0 hcx | exact fix1 hcx rfl | exact fixN hcx rfl) fun K hK => ?_; simp only [go_sem, seval]; (repeat refine aI (hb := ?_)); refine hK _ ?_; clear hK K
 (repeat refine ats_seq ?_); refine ats_loop (fun i : Nat => ⟨[(0, .lv (bsV c)), (5, .bptr 0 0), (6, .int i)], [(0, .bx [.lv (bsV c), .int (0 : Nat), .ik .u64 (rlH c seed i)])]⟩) (fun i => i ≤ N) (fun i => N - i) 0 (Nat.zero_le _) (by
  refine And.intro ?_ rfl; simp only [leS, Nat.reduceEqDiff, ↓reduceIte, true_and, and_true]
  try rfl) (fun i hi => ?_)
 (repeat refine ats_seq ?_); refine ats_go (by first | exact fix0 hcx | exact fix1 hcx rfl | exact fixN hcx rfl) fun K hK => ?_; simp only [go_sem, seval]; (repeat refine aI (hb := ?_)); refine hK _ ?_; clear hK K
 (repeat refine ats_seq ?_); first | refine ats_ifn (p := _) rfl trivial (fun hc2 => ?_) (fun hc2 => ?_) | refine ats_ifp (p := _) rfl trivial (fun hc2 => ?_) (fun hc2 => ?_) | refine ats_cond rfl trivial (fun hc2 => ?_) (fun hc2 => ?_)
 ·have hlt : i < c.length := by omega
  have hbi := hb i hlt
  have es : rlH c seed (i + 1) = ((rlH c seed i * 1099511628211 % 18446744073709551616 + c.getD i 0 % 18446744073709551616) % 18446744073709551616 + 5) % 18446744073709551616 := rfl
  refine ats_skip ?_
  (repeat refine ats_seq ?_); refine ats_block ?_
  (repeat refine ats_seq ?_)
  refine ats_plan [] (.one 0 (.one 1 (.one 2 (.one 3 (.one 4 (.one 5 (.one 6 (.one 7 (.one 8 (.one 9 (.one 10 (.one 11 (.one 12 (.one 13 (.one 14 (.alt 15 .fin .stop)))))))))))))))) ⟨[(0, .lv (bsV c)), (5, .bptr 0 0), (6, .int i)], [(0, .bx [.lv (bsV c), .int (0 : Nat), .ik .u64 (rlH c seed (i + 1))])]⟩ (by first | exact fix0 hcx | exact fixN hcx rfl) mixed (by kernel_rfl) (fun K hK => ?_) ?_
  ·simp only [go_sem, seval, Option.getD_some, and_true, true_and, and_self, List.contains_cons, List.contains_nil, Bool.or_false, Bool.or_true]
   repeat' (first | exact hK _ (by refine And.intro ?_ rfl; simp only [leS, Nat.reduceEqDiff, ↓reduceIte, true_and, and_true])  | with_reducible refine And.intro ?_ ?_ | omega | ((simp only [bsV_get hlt, ← es])) | (simp only [go_sem, seval, Option.getD_some, and_true, true_and, and_self, List.contains_cons, List.contains_nil, Bool.or_false, Bool.or_true]))
  (repeat refine ats_seq ?_); refine ats_go (by first | exact fix0 hcx | exact fix1 hcx rfl | exact fixN hcx rfl) fun K hK => ?_; simp only [go_sem, seval]; (repeat refine aI (hb := ?_)); refine hK _ ?_; clear hK K
  refine ⟨i + 1,  by omega, by omega, .inl ⟨by simp only [leS, Nat.reduceEqDiff, ↓reduceIte, true_and, and_true]; (try omega),  rfl⟩⟩
 ·have e : i = N := by omega
  subst e
  refine ats_exit (lq_x ?_)
  (repeat refine ats_seq ?_); refine ats_go (by first | exact fix0 hcx | exact fix1 hcx rfl | exact fixN hcx rfl) fun K hK => ?_; simp only [go_sem, seval]; (repeat refine aI (hb := ?_)); refine hK _ ?_; clear hK K
  refine ats_ret ⟨⟨[(0, .lv (bsV c)), (4, .bptr 0 0)], [(0, .bx [.lv (bsV c), .int (0 : Nat), .ik .u64 (rlH c seed i)])]⟩, ghost_to [] [], .inr rfl, (by first | rfl | exact ⟨trivial, rfl⟩ | (simp only [resL, resA, go_sem, seval]; done)), (by simp [St.get, slotGet, argSlots]), rfl⟩
def v9L : Nat → List Int → Src → List Int × Src
 | 0, o, s => (o, s)
 | k + 1, o, s => v9L k (o ++ [(nx s 5).1]) (nx s 5).2
end Go.Proofs.Ytppoaacplncppaa
