import Derived.Test.YtfnokakbdehlgaaDoorJz3
import Derived.Test.YtfnokakbdehlgaaDoorMz1
import Derived.Test.YtfnokakbdehlgaaDoorLib7
set_option linter.unusedSimpArgs false
set_option linter.unusedVariables false
namespace Go.Proofs.YtfnokakbdehlgaaDoor
open Go Go.Aw Go.Pl
attribute [local go_sem] mv_nil mv_cons MVK_ap pl_fin pl_stop pl_one pl_alt PK_ap pickO List.getElem?_toArray List.getElem?_cons_zero List.getElem?_cons_succ
attribute [local go_sem] pickO List.getElem?_toArray List.getElem?_cons_zero List.getElem?_cons_succ Option.getD_some and_true true_and and_self
theorem allS_pos {t : Cu} (h : RingP t) : 1 ≤ (allS t (2 ^ (t.length - 1))).length := by
 obtain ⟨m, hm⟩ : ∃ m, 2 ^ (t.length - 1) = m + 1 := ⟨2 ^ (t.length - 1) - 1, by have := Nat.pow_pos (n := t.length - 1) (show 0 < 2 by decide); omega⟩
 rw [hm]
 clear hm
 induction m with
 | zero =>
  unfold allS
  rw [if_pos (bd_true (one_clos h))]
  simp
 | succ m ih =>
  have e : allS t (m + 1 + 1) = allS t (m + 1) ++ (if bd (ClosP t (2 * (m + 1) + 1)) = true then [((2 * (m + 1) + 1 : Nat) : Int)] else []) := rfl
  rw [e, List.length_append]
  omega
set_option maxRecDepth 100000 in
set_option maxHeartbeats 4000000 in
theorem l05Draw_ok (c : List Int) (hc : CodeOk c) : ∃ (t : Cu) (x : Int), t.length ≤ 8 ∧ PureCall Tryd.prog 85 [.lv (bsV c)] (.tup [.agg [.l3 t], .int x]) := by
 have hF := from_ok c hc.len hc.byte
 have ok0 := frS_ok hc.len hc.byte
 generalize frS c = s at *
 obtain ⟨t, s1, lt, ok1, hA⟩ := l03DrawAny_ok s ok0 8 (by decide) (by decide)
 have hI := l03Is_ok t
 have hN := next_ok s1 ok1 4 (by omega)
 have b1 := nx_bd s1 (n := 4) (by omega)
 have ok2 := nx_ok ok1 4
 generalize nx s1 4 = q at *
 unfold AnyC at hA
 have e2 : ((2 ^ t.length : Nat) : Int) ≤ 256 := by have := Nat.pow_le_pow_right (show 0 < 2 by decide) lt; omega
 have esh : shlI 2 ((t.length : Int) % 18446744073709551616) = ((2 * 2 ^ t.length : Nat) : Int) := by
  rw [show (t.length : Int) % 18446744073709551616 = (t.length : Int) by omega]
  exact shlI_nat (a := 2) (by omega) (by omega)
 cases hr : isRing t with
 | false =>
  have hM := next_ok s1 ok1 ((2 * 2 ^ t.length : Nat) : Int) (by omega)
  have h1 := Nat.pow_pos (n := t.length) (show 0 < 2 by decide)
  have b2 := nx_bd s1 (n := ((2 * 2 ^ t.length : Nat) : Int)) (by omega)
  generalize nx s1 ((2 * 2 ^ t.length : Nat) : Int) = r at *
  rw [hr] at hI
  refine ⟨t, r.1 - 1, lt, ?_⟩
  refine PureCall.introR (n := 37) (rs := [.cell 2 26, .tmp 3]) Tryd.call85 Tryd.func85 rfl rfl rfl (by simp only [List.length_cons, List.length_nil]; omega) (fun cx hcx hrd => ats_of ?_); simp only [argSlots, Nat.zero_add, Nat.reduceAdd]
  refine gB ?_
  (repeat refine ats_seq ?_); refine AT.ghost (st' := ⟨[(0, .lv (bsV c)), (2, .bptr 7 0), (3, .int 0)], [(7, .bx [.nil])]⟩) (ghost_trans (ghost_drop []) (ghost_can [(0, 7)] (by simp only [killL, killA, killAs, killT_srcB, killAs_bsV, qOf, rmT, killH, killT_e, List.filter_cons, List.filter_nil, List.contains_cons, List.contains_nil, Bool.or_false, Bool.or_true, Bool.false_and, Bool.not_true, Bool.not_false, Bool.false_eq_true, if_true, if_false, rnLs, rnL, rn, rns, rns_bsV, sw, SlotsLe, St.get, slotGet, List.map_cons, List.map_nil, seval, AV.int.injEq, AV.bool.injEq, AV.l1.injEq, AV.l2.injEq, AV.l3.injEq, true_and, and_true]) (by simp only [killL, killA, killAs, killT_srcB, killAs_bsV, qOf, rmT, killH, killT_e, List.filter_cons, List.filter_nil, List.contains_cons, List.contains_nil, Bool.or_false, Bool.or_true, Bool.false_and, Bool.not_true, Bool.not_false, Bool.false_eq_true, if_true, if_false, sortH, insH, rnHs, rnH, rnT_e, rnT_srcB, rn, rns, rns_bsV, sw, List.map_cons, List.map_nil, seval]))) ?_
  refine gC fun K hK => ?_
  refine fcall_box (hF) (by simp [Aw.ids]) (by simp [find]) (by simp [closedT, killT_e, killAs, killA, outQ, Aw.ids]) (by simp [killAs, killA, outQ, Aw.ids]) (by simp [Aw.ids]) ?_; simp only [Aw.ids, List.map_cons, List.map_nil, List.filter_cons, List.filter_nil, List.contains_cons, List.contains_nil, Bool.or_false, Bool.or_true, Bool.not_true, Bool.not_false, Nat.reduceBEq, Bool.false_eq_true, if_true, if_false, List.cons_append, List.nil_append]; simp only [go_sem, seval]
  refine hK _ ?_; clear hK K
  refine gC fun K hK => ?_
  refine fcall_box (hA) (by simp [Aw.ids]) (by simp [find]) (by simp [closedT, killT_e, killAs, killA, outQ, Aw.ids]) (by simp [killAs, killA, outQ, Aw.ids]) (by simp [Aw.ids]) ?_; simp only [Aw.ids, List.map_cons, List.map_nil, List.filter_cons, List.filter_nil, List.contains_cons, List.contains_nil, Bool.or_false, Bool.or_true, Bool.not_true, Bool.not_false, Nat.reduceBEq, Bool.false_eq_true, if_true, if_false, List.cons_append, List.nil_append]; simp only [go_sem, seval]
  refine hK _ ?_; clear hK K
  (repeat refine ats_seq ?_); refine AT.ghost (st' := ⟨[(2, .bptr 7 0), (3, .int 0), (4, .bptr 0 0), (5, .bptr 8 0)], [(0, srcB s1), (7, .bx [.nil]), (8, .bx [.l3 t])]⟩) (ghost_trans (ghost_drop [2]) (ghost_can [] (by simp only [killL, killA, killAs, killT_srcB, killAs_bsV, qOf, rmT, killH, killT_e, List.filter_cons, List.filter_nil, List.contains_cons, List.contains_nil, Bool.or_false, Bool.or_true, Bool.false_and, Bool.not_true, Bool.not_false, Bool.false_eq_true, if_true, if_false, rnLs, rnL, rn, rns, rns_bsV, sw, SlotsLe, St.get, slotGet, List.map_cons, List.map_nil, seval, AV.int.injEq, AV.bool.injEq, AV.l1.injEq, AV.l2.injEq, AV.l3.injEq, true_and, and_true]) (by simp only [killL, killA, killAs, killT_srcB, killAs_bsV, qOf, rmT, killH, killT_e, List.filter_cons, List.filter_nil, List.contains_cons, List.contains_nil, Bool.or_false, Bool.or_true, Bool.false_and, Bool.not_true, Bool.not_false, Bool.false_eq_true, if_true, if_false, sortH, insH, rnHs, rnH, rnT_e, rnT_srcB, rn, rns, rns_bsV, sw, List.map_cons, List.map_nil, seval]))) ?_
  refine gC fun K hK => ?_
  first | refine fcall_data (hI) rfl ?_ | refine YR_intro (acall_data (hI) rfl) ?_
  simp only [go_sem, seval]
  refine YR_intro (v := .int 0) (by first | trivial | (intro h; cases h)) ?_
  simp only [go_sem, seval]
  refine hK _ ?_; clear hK K
  (repeat refine ats_seq ?_); refine ats_no rfl trivial ?_
  refine ats_skip ?_
  (repeat refine ats_seq ?_); refine AT.ghost (st' := ⟨[(2, .bptr 7 0), (3, .int 0), (4, .bptr 0 0), (5, .bptr 8 0)], [(0, srcB s1), (7, .bx [.nil]), (8, .bx [.l3 t])]⟩) (ghost_trans (ghost_drop []) (ghost_can [] (by simp only [killL, killA, killAs, killT_srcB, killAs_bsV, qOf, rmT, killH, killT_e, List.filter_cons, List.filter_nil, List.contains_cons, List.contains_nil, Bool.or_false, Bool.or_true, Bool.false_and, Bool.not_true, Bool.not_false, Bool.false_eq_true, if_true, if_false, rnLs, rnL, rn, rns, rns_bsV, sw, SlotsLe, St.get, slotGet, List.map_cons, List.map_nil, seval, AV.int.injEq, AV.bool.injEq, AV.l1.injEq, AV.l2.injEq, AV.l3.injEq, true_and, and_true]) (by simp only [killL, killA, killAs, killT_srcB, killAs_bsV, qOf, rmT, killH, killT_e, List.filter_cons, List.filter_nil, List.contains_cons, List.contains_nil, Bool.or_false, Bool.or_true, Bool.false_and, Bool.not_true, Bool.not_false, Bool.false_eq_true, if_true, if_false, sortH, insH, rnHs, rnH, rnT_e, rnT_srcB, rn, rns, rns_bsV, sw, List.map_cons, List.map_nil, seval]))) ?_
  (repeat refine ats_seq ?_)
  obtain ⟨z0, ez0⟩ : ∃ z : St, z = ⟨[(2, .bptr 7 0), (5, .bptr 8 0), (29, .bptr 0 0)], [(0, srcB s1), (7, .bx [.nil]), (8, .bx [.l3 t])]⟩ := ⟨_, rfl⟩
  obtain ⟨z1, ez1⟩ : ∃ z : St, z = ⟨[(2, .bptr 7 0), (5, .bptr 8 0), (28, .agg [.l3 t]), (29, .bptr 0 0)], [(0, srcB s1), (7, .bx [.nil]), (8, .bx [.l3 t])]⟩ := ⟨_, rfl⟩
  obtain ⟨z2, ez2⟩ : ∃ z : St, z = ⟨[(2, .bptr 7 0), (5, .bptr 8 0), (29, .bptr 0 0), (30, .bptr 8 0)], [(0, srcB s1), (7, .bx [.nil]), (8, .bx [.l3 t])]⟩ := ⟨_, rfl⟩
  obtain ⟨z3, ez3⟩ : ∃ z : St, z = ⟨[(2, .bptr 7 0), (28, .agg [.l3 t]), (29, .bptr 0 0), (30, .bptr 8 0)], [(0, srcB s1), (7, .bx [.nil]), (8, .bx [.l3 t])]⟩ := ⟨_, rfl⟩
  obtain ⟨z4, ez4⟩ : ∃ z : St, z = ⟨[(2, .bptr 7 0), (5, .bptr 8 0), (29, .bptr 0 0), (31, .l3 t)], [(0, srcB s1), (7, .bx [.nil]), (8, .bx [.l3 t])]⟩ := ⟨_, rfl⟩
  obtain ⟨z5, ez5⟩ : ∃ z : St, z = ⟨[(2, .bptr 7 0), (28, .agg [.l3 t]), (29, .bptr 0 0), (31, .l3 t)], [(0, srcB s1), (7, .bx [.nil]), (8, .bx [.l3 t])]⟩ := ⟨_, rfl⟩
  obtain ⟨z6, ez6⟩ : ∃ z : St, z = ⟨[(2, .bptr 7 0), (5, .bptr 8 0), (29, .bptr 0 0), (32, .int t.length)], [(0, srcB s1), (7, .bx [.nil]), (8, .bx [.l3 t])]⟩ := ⟨_, rfl⟩
  obtain ⟨z7, ez7⟩ : ∃ z : St, z = ⟨[(2, .bptr 7 0), (28, .agg [.l3 t]), (29, .bptr 0 0), (32, .int t.length)], [(0, srcB s1), (7, .bx [.nil]), (8, .bx [.l3 t])]⟩ := ⟨_, rfl⟩
  obtain ⟨z8, ez8⟩ : ∃ z : St, z = ⟨[(2, .bptr 7 0), (5, .bptr 8 0), (29, .bptr 0 0), (33, .ik .u64 ((t.length : Int) % 18446744073709551616))], [(0, srcB s1), (7, .bx [.nil]), (8, .bx [.l3 t])]⟩ := ⟨_, rfl⟩
  obtain ⟨z9, ez9⟩ : ∃ z : St, z = ⟨[(2, .bptr 7 0), (28, .agg [.l3 t]), (29, .bptr 0 0), (33, .ik .u64 ((t.length : Int) % 18446744073709551616))], [(0, srcB s1), (7, .bx [.nil]), (8, .bx [.l3 t])]⟩ := ⟨_, rfl⟩
  obtain ⟨z10, ez10⟩ : ∃ z : St, z = ⟨[(2, .bptr 7 0), (5, .bptr 8 0), (29, .bptr 0 0), (34, .int ((2 * 2 ^ t.length : Nat) : Int))], [(0, srcB s1), (7, .bx [.nil]), (8, .bx [.l3 t])]⟩ := ⟨_, rfl⟩
  obtain ⟨z11, ez11⟩ : ∃ z : St, z = ⟨[(2, .bptr 7 0), (28, .agg [.l3 t]), (29, .bptr 0 0), (34, .int ((2 * 2 ^ t.length : Nat) : Int))], [(0, srcB s1), (7, .bx [.nil]), (8, .bx [.l3 t])]⟩ := ⟨_, rfl⟩
  obtain ⟨z12, ez12⟩ : ∃ z : St, z = ⟨[(2, .bptr 7 0), (5, .bptr 8 0), (35, .int r.1)], [(0, srcB r.2), (7, .bx [.nil]), (8, .bx [.l3 t])]⟩ := ⟨_, rfl⟩
  obtain ⟨z13, ez13⟩ : ∃ z : St, z = ⟨[(2, .bptr 7 0), (28, .agg [.l3 t]), (35, .int r.1)], [(0, srcB r.2), (7, .bx [.nil]), (8, .bx [.l3 t])]⟩ := ⟨_, rfl⟩
  obtain ⟨z14, ez14⟩ : ∃ z : St, z = ⟨[(2, .bptr 7 0), (5, .bptr 8 0), (36, .int (r.1 - 1))], [(0, srcB r.2), (7, .bx [.nil]), (8, .bx [.l3 t])]⟩ := ⟨_, rfl⟩
  obtain ⟨z15, ez15⟩ : ∃ z : St, z = ⟨[(2, .bptr 7 0), (28, .agg [.l3 t]), (36, .int (r.1 - 1))], [(0, srcB r.2), (7, .bx [.nil]), (8, .bx [.l3 t])]⟩ := ⟨_, rfl⟩
  obtain ⟨z16, ez16⟩ : ∃ z : St, z = ⟨[(2, .bptr 7 0), (35, .int r.1)], [(0, srcB r.2), (7, .bx [.l3 t]), (8, .bx [.l3 t])]⟩ := ⟨_, rfl⟩
  obtain ⟨z17, ez17⟩ : ∃ z : St, z = ⟨[(2, .bptr 7 0), (36, .int (r.1 - 1))], [(0, srcB r.2), (7, .bx [.l3 t]), (8, .bx [.l3 t])]⟩ := ⟨_, rfl⟩
  obtain ⟨z18, ez18⟩ : ∃ z : St, z = ⟨[(2, .bptr 7 0), (3, .int (r.1 - 1))], [(0, srcB r.2), (7, .bx [.l3 t]), (8, .bx [.l3 t])]⟩ := ⟨_, rfl⟩
  refine ats_table [7] [1] [[1], [0, 1], [1, 2], [0, 1, 2], [1, 2, 3], [0, 1, 2, 3], [1, 2, 3, 4], [0, 1, 2, 3, 4], [1, 2, 3, 4, 5], [0, 1, 2, 3, 4, 5], [1, 2, 3, 4, 5, 6], [0, 1, 2, 3, 4, 5, 6], [1, 2, 3, 4, 5, 6, 7], [0, 1, 2, 3, 4, 5, 6, 7], [1, 2, 3, 4, 5, 6, 7, 8], [0, 1, 2, 3, 4, 5, 6, 7, 8], [0, 1, 2, 3, 4, 5, 6, 7, 9], [0, 1, 2, 3, 4, 5, 6, 7, 8, 9], [0, 1, 2, 3, 4, 5, 6, 7, 8, 9, 10]] [(0, 0, 1), (0, 2, 2), (1, 2, 3), (2, 0, 3), (2, 3, 4), (3, 3, 5), (4, 0, 5), (4, 4, 6), (5, 4, 7), (6, 0, 7), (6, 5, 8), (7, 5, 9), (8, 0, 9), (8, 6, 10), (9, 6, 11), (10, 0, 11), (10, 7, 12), (11, 7, 13), (12, 0, 13), (12, 8, 14), (13, 8, 15), (13, 9, 16), (14, 0, 15), (15, 9, 17), (16, 8, 17), (17, 10, 18)] [z0, z1, z2, z3, z4, z5, z6, z7, z8, z9, z10, z11, z12, z13, z14, z15, z16, z17, z18] hrd (by first | exact fix0 hcx | exact fix1 hcx rfl | exact fixN hcx rfl) mixed (by kernel_rfl) ?_ ?_ ?_
  ·show mvTRun _ _ _ _ _ _ (fun s => Ghost _ _ s z0)
   rw [ez0]; simp only [go_sem, seval]; repeat' (first | exact dt_can ⟨rfl, rfl, rfl, trivial⟩ rfl | with_reducible refine And.intro ?_ ?_ | omega)
  ·refine ⟨?_, ?_, ?_, ?_, ?_, ?_, ?_, ?_, ?_, ?_, ?_, ?_, ?_, ?_, ?_, ?_, ?_, ?_, ?_, ?_, ?_, ?_, ?_, ?_, ?_, ?_, trivial⟩
   ·show gRun _ _ _ _ _ z0 (fun st' => Ghost _ _ st' z1)
    rw [ez0, ez1]; simp only [go_sem, seval]; repeat' (first | exact dt_can ⟨rfl, rfl, rfl, rfl, trivial⟩ rfl | with_reducible refine And.intro ?_ ?_ | omega)
   ·show gRun _ _ _ _ _ z0 (fun st' => Ghost _ _ st' z2)
    rw [ez0, ez2]; simp only [go_sem, seval]; exact dt_can ⟨rfl, rfl, rfl, rfl, trivial⟩ rfl
   ·show gRun _ _ _ _ _ z1 (fun st' => Ghost _ _ st' z3)
    rw [ez1, ez3]; simp only [go_sem, seval]; exact dt_can ⟨rfl, rfl, rfl, rfl, trivial⟩ rfl
   ·show gRun _ _ _ _ _ z2 (fun st' => Ghost _ _ st' z3)
    rw [ez2, ez3]; simp only [go_sem, seval]; repeat' (first | exact dt_can ⟨rfl, rfl, rfl, rfl, trivial⟩ rfl | with_reducible refine And.intro ?_ ?_ | omega)
   ·show gRun _ _ _ _ _ z2 (fun st' => Ghost _ _ st' z4)
    rw [ez2, ez4]; simp only [go_sem, seval]; repeat' (first | exact dt_can ⟨rfl, rfl, rfl, rfl, trivial⟩ rfl | with_reducible refine And.intro ?_ ?_ | omega)
   ·show gRun _ _ _ _ _ z3 (fun st' => Ghost _ _ st' z5)
    rw [ez3, ez5]; simp only [go_sem, seval]; repeat' (first | exact dt_can ⟨rfl, rfl, rfl, rfl, trivial⟩ rfl | with_reducible refine And.intro ?_ ?_ | omega)
   ·show gRun _ _ _ _ _ z4 (fun st' => Ghost _ _ st' z5)
    rw [ez4, ez5]; simp only [go_sem, seval]; repeat' (first | exact dt_can ⟨rfl, rfl, rfl, rfl, trivial⟩ rfl | with_reducible refine And.intro ?_ ?_ | omega)
   ·show gRun _ _ _ _ _ z4 (fun st' => Ghost _ _ st' z6)
    rw [ez4, ez6]; simp only [go_sem, seval]; repeat' (first | exact dt_can ⟨rfl, rfl, rfl, rfl, trivial⟩ rfl | with_reducible refine And.intro ?_ ?_ | omega)
   ·show gRun _ _ _ _ _ z5 (fun st' => Ghost _ _ st' z7)
    rw [ez5, ez7]; simp only [go_sem, seval]; repeat' (first | exact dt_can ⟨rfl, rfl, rfl, rfl, trivial⟩ rfl | with_reducible refine And.intro ?_ ?_ | omega)
   ·show gRun _ _ _ _ _ z6 (fun st' => Ghost _ _ st' z7)
    rw [ez6, ez7]; simp only [go_sem, seval]; repeat' (first | exact dt_can ⟨rfl, rfl, rfl, rfl, trivial⟩ rfl | with_reducible refine And.intro ?_ ?_ | omega)
   ·show gRun _ _ _ _ _ z6 (fun st' => Ghost _ _ st' z8)
    rw [ez6, ez8]; simp only [go_sem, seval]; repeat' (first | exact dt_can ⟨rfl, rfl, rfl, rfl, trivial⟩ rfl | with_reducible refine And.intro ?_ ?_ | omega)
   ·show gRun _ _ _ _ _ z7 (fun st' => Ghost _ _ st' z9)
    rw [ez7, ez9]; simp only [go_sem, seval]; repeat' (first | exact dt_can ⟨rfl, rfl, rfl, rfl, trivial⟩ rfl | with_reducible refine And.intro ?_ ?_ | omega)
   ·show gRun _ _ _ _ _ z8 (fun st' => Ghost _ _ st' z9)
    rw [ez8, ez9]; simp only [go_sem, seval]; repeat' (first | exact dt_can ⟨rfl, rfl, rfl, rfl, trivial⟩ rfl | with_reducible refine And.intro ?_ ?_ | omega)
   ·show gRun _ _ _ _ _ z8 (fun st' => Ghost _ _ st' z10)
    rw [ez8, ez10]; simp only [go_sem, seval]; (try simp only [esh]); repeat' (first | exact dt_can ⟨rfl, rfl, rfl, rfl, trivial⟩ rfl | with_reducible refine And.intro ?_ ?_ | omega)
   ·show gRun _ _ _ _ _ z9 (fun st' => Ghost _ _ st' z11)
    rw [ez9, ez11]; simp only [go_sem, seval]; (try simp only [esh]); repeat' (first | exact dt_can ⟨rfl, rfl, rfl, rfl, trivial⟩ rfl | with_reducible refine And.intro ?_ ?_ | omega)
   ·show gRun _ _ _ _ _ z10 (fun st' => Ghost _ _ st' z11)
    rw [ez10, ez11]; simp only [go_sem, seval]; repeat' (first | exact dt_can ⟨rfl, rfl, rfl, rfl, trivial⟩ rfl | with_reducible refine And.intro ?_ ?_ | omega)
   ·show gRun _ _ _ _ _ z10 (fun st' => Ghost _ _ st' z12)
    rw [ez10, ez12]; simp only [go_sem, seval]; refine fcall_src (hM) rfl rfl ?_; simp only [go_sem, seval]; exact dt_can ⟨rfl, rfl, rfl, trivial⟩ rfl
   ·show gRun _ _ _ _ _ z11 (fun st' => Ghost _ _ st' z13)
    rw [ez11, ez13]; simp only [go_sem, seval]; refine fcall_src (hM) rfl rfl ?_; simp only [go_sem, seval]; exact dt_can ⟨rfl, rfl, rfl, trivial⟩ rfl
   ·show gRun _ _ _ _ _ z12 (fun st' => Ghost _ _ st' z13)
    rw [ez12, ez13]; simp only [go_sem, seval]; repeat' (first | exact dt_can ⟨rfl, rfl, rfl, trivial⟩ rfl | with_reducible refine And.intro ?_ ?_ | omega)
   ·show gRun _ _ _ _ _ z12 (fun st' => Ghost _ _ st' z14)
    rw [ez12, ez14]; simp only [go_sem, seval]; repeat' (first | exact dt_can ⟨rfl, rfl, rfl, trivial⟩ rfl | with_reducible refine And.intro ?_ ?_ | omega)
   ·show gRun _ _ _ _ _ z13 (fun st' => Ghost _ _ st' z15)
    rw [ez13, ez15]; simp only [go_sem, seval]; repeat' (first | exact dt_can ⟨rfl, rfl, rfl, trivial⟩ rfl | with_reducible refine And.intro ?_ ?_ | omega)
   ·show gRun _ _ _ _ _ z13 (fun st' => Ghost _ _ st' z16)
    rw [ez13, ez16]; simp only [go_sem, seval]; repeat' (first | exact dt_can ⟨rfl, rfl, trivial⟩ rfl | with_reducible refine And.intro ?_ ?_ | omega)
   ·show gRun _ _ _ _ _ z14 (fun st' => Ghost _ _ st' z15)
    rw [ez14, ez15]; simp only [go_sem, seval]; repeat' (first | exact dt_can ⟨rfl, rfl, rfl, trivial⟩ rfl | with_reducible refine And.intro ?_ ?_ | omega)
   ·show gRun _ _ _ _ _ z15 (fun st' => Ghost _ _ st' z17)
    rw [ez15, ez17]; simp only [go_sem, seval]; repeat' (first | exact dt_can ⟨rfl, rfl, trivial⟩ rfl | with_reducible refine And.intro ?_ ?_ | omega)
   ·show gRun _ _ _ _ _ z16 (fun st' => Ghost _ _ st' z17)
    rw [ez16, ez17]; simp only [go_sem, seval]; repeat' (first | exact dt_can ⟨rfl, rfl, trivial⟩ rfl | with_reducible refine And.intro ?_ ?_ | omega)
   ·show gRun _ _ _ _ _ z17 (fun st' => Ghost _ _ st' z18)
    rw [ez17, ez18]; simp only [go_sem, seval]; exact dt_can ⟨rfl, rfl, trivial⟩ rfl
  show ATs _ _ _ _ _ z18
  rw [ez18]
  clear ez0 ez1 ez2 ez3 ez4 ez5 ez6 ez7 ez8 ez9 ez10 ez11 ez12 ez13 ez14 ez15 ez16 ez17 ez18 z0 z1 z2 z3 z4 z5 z6 z7 z8 z9 z10 z11 z12 z13 z14 z15 z16 z17 z18
  exact ats_ret ⟨.inr rfl, .tup [.agg [.l3 t], .int (r.1 - 1)], by simp only [resL, resA, go_sem, seval], rfl⟩
 | true =>
  by_cases hq : 0 < q.1
  ·have hS := l05Subrings_ok t (isRing_P hr)
   have hp := allS_pos (isRing_P hr)
   have hl := allS_len (t := t) (m := 2 ^ (t.length - 1))
   have e3 : 2 ^ (t.length - 1) ≤ 2 ^ 8 := Nat.pow_le_pow_right (by decide) (by omega)
   generalize allS t (2 ^ (t.length - 1)) = L at *
   have hM := next_ok q.2 ok2 L.length (by omega)
   have b2 := nx_bd q.2 (n := L.length) (by omega)
   generalize nx q.2 L.length = r at *
   rw [hr] at hI
   refine ⟨t, L.getD r.1.toNat 0, lt, ?_⟩
   refine PureCall.introR (n := 37) (rs := [.cell 2 26, .tmp 3]) Tryd.call85 Tryd.func85 rfl rfl rfl (by simp only [List.length_cons, List.length_nil]; omega) (fun cx hcx hrd => ats_of ?_); simp only [argSlots, Nat.zero_add, Nat.reduceAdd]
   refine gB ?_
   (repeat refine ats_seq ?_); refine AT.ghost (st' := ⟨[(0, .lv (bsV c)), (2, .bptr 7 0), (3, .int 0)], [(7, .bx [.nil])]⟩) (ghost_trans (ghost_drop []) (ghost_can [(0, 7)] (by simp only [killL, killA, killAs, killT_srcB, killAs_bsV, qOf, rmT, killH, killT_e, List.filter_cons, List.filter_nil, List.contains_cons, List.contains_nil, Bool.or_false, Bool.or_true, Bool.false_and, Bool.not_true, Bool.not_false, Bool.false_eq_true, if_true, if_false, rnLs, rnL, rn, rns, rns_bsV, sw, SlotsLe, St.get, slotGet, List.map_cons, List.map_nil, seval, AV.int.injEq, AV.bool.injEq, AV.l1.injEq, AV.l2.injEq, AV.l3.injEq, true_and, and_true]) (by simp only [killL, killA, killAs, killT_srcB, killAs_bsV, qOf, rmT, killH, killT_e, List.filter_cons, List.filter_nil, List.contains_cons, List.contains_nil, Bool.or_false, Bool.or_true, Bool.false_and, Bool.not_true, Bool.not_false, Bool.false_eq_true, if_true, if_false, sortH, insH, rnHs, rnH, rnT_e, rnT_srcB, rn, rns, rns_bsV, sw, List.map_cons, List.map_nil, seval]))) ?_
   refine gC fun K hK => ?_
   refine fcall_box (hF) (by simp [Aw.ids]) (by simp [find]) (by simp [closedT, killT_e, killAs, killA, outQ, Aw.ids]) (by simp [killAs, killA, outQ, Aw.ids]) (by simp [Aw.ids]) ?_; simp only [Aw.ids, List.map_cons, List.map_nil, List.filter_cons, List.filter_nil, List.contains_cons, List.contains_nil, Bool.or_false, Bool.or_true, Bool.not_true, Bool.not_false, Nat.reduceBEq, Bool.false_eq_true, if_true, if_false, List.cons_append, List.nil_append]; simp only [go_sem, seval]
   refine hK _ ?_; clear hK K
   refine gC fun K hK => ?_
   refine fcall_box (hA) (by simp [Aw.ids]) (by simp [find]) (by simp [closedT, killT_e, killAs, killA, outQ, Aw.ids]) (by simp [killAs, killA, outQ, Aw.ids]) (by simp [Aw.ids]) ?_; simp only [Aw.ids, List.map_cons, List.map_nil, List.filter_cons, List.filter_nil, List.contains_cons, List.contains_nil, Bool.or_false, Bool.or_true, Bool.not_true, Bool.not_false, Nat.reduceBEq, Bool.false_eq_true, if_true, if_false, List.cons_append, List.nil_append]; simp only [go_sem, seval]
   refine hK _ ?_; clear hK K
   (repeat refine ats_seq ?_); refine AT.ghost (st' := ⟨[(2, .bptr 7 0), (3, .int 0), (4, .bptr 0 0), (5, .bptr 8 0)], [(0, srcB s1), (7, .bx [.nil]), (8, .bx [.l3 t])]⟩) (ghost_trans (ghost_drop [2]) (ghost_can [] (by simp only [killL, killA, killAs, killT_srcB, killAs_bsV, qOf, rmT, killH, killT_e, List.filter_cons, List.filter_nil, List.contains_cons, List.contains_nil, Bool.or_false, Bool.or_true, Bool.false_and, Bool.not_true, Bool.not_false, Bool.false_eq_true, if_true, if_false, rnLs, rnL, rn, rns, rns_bsV, sw, SlotsLe, St.get, slotGet, List.map_cons, List.map_nil, seval, AV.int.injEq, AV.bool.injEq, AV.l1.injEq, AV.l2.injEq, AV.l3.injEq, true_and, and_true]) (by simp only [killL, killA, killAs, killT_srcB, killAs_bsV, qOf, rmT, killH, killT_e, List.filter_cons, List.filter_nil, List.contains_cons, List.contains_nil, Bool.or_false, Bool.or_true, Bool.false_and, Bool.not_true, Bool.not_false, Bool.false_eq_true, if_true, if_false, sortH, insH, rnHs, rnH, rnT_e, rnT_srcB, rn, rns, rns_bsV, sw, List.map_cons, List.map_nil, seval]))) ?_
   (repeat refine ats_seq ?_); refine ats_goU (by first | exact fix0 hcx | exact fix1 hcx rfl | exact fixN hcx rfl) fun K hK => ?_; simp only [go_sem, seval, u_nil, u_cons, UK_ap, ung_eq, gOk_none, gOk_some, List.getElem?_toArray, List.getElem?_cons_zero, List.getElem?_cons_succ, true_and, and_true]
   first | refine fcall_data (hI) rfl ?_ | refine YR_intro (acall_data (hI) rfl) ?_
   simp only [go_sem, seval]
   simp only [go_sem, seval, u_nil, u_cons, UK_ap, ung_eq, gOk_none, gOk_some, List.getElem?_toArray, List.getElem?_cons_zero, List.getElem?_cons_succ, true_and, and_true]
   refine fcall_src (hN) rfl rfl ?_; simp only [go_sem, seval]
   simp only [go_sem, seval, u_nil, u_cons, UK_ap, ung_eq, gOk_none, gOk_some, List.getElem?_toArray, List.getElem?_cons_zero, List.getElem?_cons_succ, true_and, and_true]
   refine hK _ ?_; clear hK K
   refine gI (fun hz => ?_) fun hz => ?_
   rotate_left
   ·exact absurd hq hz
   refine gC fun K hK => ?_
   first | refine fcall_fresh rfl (hS) ?_ | refine YR_intro (acall_fresh rfl (hS)) ?_
   simp only [go_sem, seval]
   refine hK _ ?_; clear hK K
   (repeat refine ats_seq ?_); refine AT.ghost (st' := ⟨[(2, .bptr 7 0), (3, .int 0), (4, .bptr 0 0), (5, .bptr 8 0), (6, .l1 L)], [(0, srcB q.2), (7, .bx [.nil]), (8, .bx [.l3 t])]⟩) (ghost_trans (ghost_drop []) (ghost_can [] (by simp only [killL, killA, killAs, killT_srcB, killAs_bsV, qOf, rmT, killH, killT_e, List.filter_cons, List.filter_nil, List.contains_cons, List.contains_nil, Bool.or_false, Bool.or_true, Bool.false_and, Bool.not_true, Bool.not_false, Bool.false_eq_true, if_true, if_false, rnLs, rnL, rn, rns, rns_bsV, sw, SlotsLe, St.get, slotGet, List.map_cons, List.map_nil, seval, AV.int.injEq, AV.bool.injEq, AV.l1.injEq, AV.l2.injEq, AV.l3.injEq, true_and, and_true]) (by simp only [killL, killA, killAs, killT_srcB, killAs_bsV, qOf, rmT, killH, killT_e, List.filter_cons, List.filter_nil, List.contains_cons, List.contains_nil, Bool.or_false, Bool.or_true, Bool.false_and, Bool.not_true, Bool.not_false, Bool.false_eq_true, if_true, if_false, sortH, insH, rnHs, rnH, rnT_e, rnT_srcB, rn, rns, rns_bsV, sw, List.map_cons, List.map_nil, seval]))) ?_
   (repeat refine ats_seq ?_)
   obtain ⟨z0, ez0⟩ : ∃ z : St, z = ⟨[(2, .bptr 7 0), (5, .bptr 8 0), (21, .l1 L), (22, .bptr 0 0), (23, .l1 L)], [(0, srcB q.2), (7, .bx [.nil]), (8, .bx [.l3 t])]⟩ := ⟨_, rfl⟩
   obtain ⟨z1, ez1⟩ : ∃ z : St, z = ⟨[(2, .bptr 7 0), (20, .agg [.l3 t]), (21, .l1 L), (22, .bptr 0 0), (23, .l1 L)], [(0, srcB q.2), (7, .bx [.nil]), (8, .bx [.l3 t])]⟩ := ⟨_, rfl⟩
   obtain ⟨z2, ez2⟩ : ∃ z : St, z = ⟨[(2, .bptr 7 0), (5, .bptr 8 0), (21, .l1 L), (22, .bptr 0 0), (24, .int L.length)], [(0, srcB q.2), (7, .bx [.nil]), (8, .bx [.l3 t])]⟩ := ⟨_, rfl⟩
   obtain ⟨z3, ez3⟩ : ∃ z : St, z = ⟨[(2, .bptr 7 0), (20, .agg [.l3 t]), (21, .l1 L), (22, .bptr 0 0), (24, .int L.length)], [(0, srcB q.2), (7, .bx [.nil]), (8, .bx [.l3 t])]⟩ := ⟨_, rfl⟩
   obtain ⟨z4, ez4⟩ : ∃ z : St, z = ⟨[(2, .bptr 7 0), (5, .bptr 8 0), (21, .l1 L), (25, .int r.1)], [(0, srcB r.2), (7, .bx [.nil]), (8, .bx [.l3 t])]⟩ := ⟨_, rfl⟩
   obtain ⟨z5, ez5⟩ : ∃ z : St, z = ⟨[(2, .bptr 7 0), (20, .agg [.l3 t]), (21, .l1 L), (25, .int r.1)], [(0, srcB r.2), (7, .bx [.nil]), (8, .bx [.l3 t])]⟩ := ⟨_, rfl⟩
   obtain ⟨z6, ez6⟩ : ∃ z : St, z = ⟨[(2, .bptr 7 0), (5, .bptr 8 0), (26, .eptr (.l1 L) r.1.toNat)], [(0, srcB r.2), (7, .bx [.nil]), (8, .bx [.l3 t])]⟩ := ⟨_, rfl⟩
   obtain ⟨z7, ez7⟩ : ∃ z : St, z = ⟨[(2, .bptr 7 0), (20, .agg [.l3 t]), (26, .eptr (.l1 L) r.1.toNat)], [(0, srcB r.2), (7, .bx [.nil]), (8, .bx [.l3 t])]⟩ := ⟨_, rfl⟩
   obtain ⟨z8, ez8⟩ : ∃ z : St, z = ⟨[(2, .bptr 7 0), (21, .l1 L), (25, .int r.1)], [(0, srcB r.2), (7, .bx [.l3 t]), (8, .bx [.l3 t])]⟩ := ⟨_, rfl⟩
   obtain ⟨z9, ez9⟩ : ∃ z : St, z = ⟨[(2, .bptr 7 0), (5, .bptr 8 0), (27, .int (L.getD r.1.toNat 0))], [(0, srcB r.2), (7, .bx [.nil]), (8, .bx [.l3 t])]⟩ := ⟨_, rfl⟩
   obtain ⟨z10, ez10⟩ : ∃ z : St, z = ⟨[(2, .bptr 7 0), (20, .agg [.l3 t]), (27, .int (L.getD r.1.toNat 0))], [(0, srcB r.2), (7, .bx [.nil]), (8, .bx [.l3 t])]⟩ := ⟨_, rfl⟩
   obtain ⟨z11, ez11⟩ : ∃ z : St, z = ⟨[(2, .bptr 7 0), (26, .eptr (.l1 L) r.1.toNat)], [(0, srcB r.2), (7, .bx [.l3 t]), (8, .bx [.l3 t])]⟩ := ⟨_, rfl⟩
   obtain ⟨z12, ez12⟩ : ∃ z : St, z = ⟨[(2, .bptr 7 0), (27, .int (L.getD r.1.toNat 0))], [(0, srcB r.2), (7, .bx [.l3 t]), (8, .bx [.l3 t])]⟩ := ⟨_, rfl⟩
   obtain ⟨z13, ez13⟩ : ∃ z : St, z = ⟨[(2, .bptr 7 0), (3, .int (L.getD r.1.toNat 0))], [(0, srcB r.2), (7, .bx [.l3 t]), (8, .bx [.l3 t])]⟩ := ⟨_, rfl⟩
   refine ats_table [5] [1, 2, 3] [[1, 2, 3], [0, 1, 2, 3], [1, 2, 3, 4], [0, 1, 2, 3, 4], [1, 2, 3, 4, 5], [0, 1, 2, 3, 4, 5], [1, 2, 3, 4, 5, 6], [0, 1, 2, 3, 4, 5, 6], [0, 1, 2, 3, 4, 5, 8], [1, 2, 3, 4, 5, 6, 7], [0, 1, 2, 3, 4, 5, 6, 7], [0, 1, 2, 3, 4, 5, 6, 8], [0, 1, 2, 3, 4, 5, 6, 7, 8], [0, 1, 2, 3, 4, 5, 6, 7, 8, 9]] [(0, 0, 1), (0, 4, 2), (1, 4, 3), (2, 0, 3), (2, 5, 4), (3, 5, 5), (4, 0, 5), (4, 6, 6), (5, 6, 7), (5, 8, 8), (6, 0, 7), (6, 7, 9), (7, 7, 10), (7, 8, 11), (8, 6, 11), (9, 0, 10), (10, 8, 12), (11, 7, 12), (12, 9, 13)] [z0, z1, z2, z3, z4, z5, z6, z7, z8, z9, z10, z11, z12, z13] hrd (by first | exact fix0 hcx | exact fix1 hcx rfl | exact fixN hcx rfl) mixed (by kernel_rfl) ?_ ?_ ?_
   ·show mvTRun _ _ _ _ _ _ (fun s => Ghost _ _ s z0)
    rw [ez0]; simp only [go_sem, seval]; repeat' (first | exact dt_can ⟨rfl, rfl, rfl, rfl, rfl, trivial⟩ rfl | with_reducible refine And.intro ?_ ?_ | omega)
   ·refine ⟨?_, ?_, ?_, ?_, ?_, ?_, ?_, ?_, ?_, ?_, ?_, ?_, ?_, ?_, ?_, ?_, ?_, ?_, ?_, trivial⟩
    ·show gRun _ _ _ _ _ z0 (fun st' => Ghost _ _ st' z1)
     rw [ez0, ez1]; simp only [go_sem, seval]; repeat' (first | exact dt_can ⟨rfl, rfl, rfl, rfl, rfl, trivial⟩ rfl | with_reducible refine And.intro ?_ ?_ | omega)
    ·show gRun _ _ _ _ _ z0 (fun st' => Ghost _ _ st' z2)
     rw [ez0, ez2]; simp only [go_sem, seval]; repeat' (first | exact dt_can ⟨rfl, rfl, rfl, rfl, rfl, trivial⟩ rfl | with_reducible refine And.intro ?_ ?_ | omega)
    ·show gRun _ _ _ _ _ z1 (fun st' => Ghost _ _ st' z3)
     rw [ez1, ez3]; simp only [go_sem, seval]; repeat' (first | exact dt_can ⟨rfl, rfl, rfl, rfl, rfl, trivial⟩ rfl | with_reducible refine And.intro ?_ ?_ | omega)
    ·show gRun _ _ _ _ _ z2 (fun st' => Ghost _ _ st' z3)
     rw [ez2, ez3]; simp only [go_sem, seval]; repeat' (first | exact dt_can ⟨rfl, rfl, rfl, rfl, rfl, trivial⟩ rfl | with_reducible refine And.intro ?_ ?_ | omega)
    ·show gRun _ _ _ _ _ z2 (fun st' => Ghost _ _ st' z4)
     rw [ez2, ez4]; simp only [go_sem, seval]; refine fcall_src (hM) rfl rfl ?_; simp only [go_sem, seval]; exact dt_can ⟨rfl, rfl, rfl, rfl, trivial⟩ rfl
    ·show gRun _ _ _ _ _ z3 (fun st' => Ghost _ _ st' z5)
     rw [ez3, ez5]; simp only [go_sem, seval]; refine fcall_src (hM) rfl rfl ?_; simp only [go_sem, seval]; exact dt_can ⟨rfl, rfl, rfl, rfl, trivial⟩ rfl
    ·show gRun _ _ _ _ _ z4 (fun st' => Ghost _ _ st' z5)
     rw [ez4, ez5]; simp only [go_sem, seval]; repeat' (first | exact dt_can ⟨rfl, rfl, rfl, rfl, trivial⟩ rfl | with_reducible refine And.intro ?_ ?_ | omega)
    ·show gRun _ _ _ _ _ z4 (fun st' => Ghost _ _ st' z6)
     rw [ez4, ez6]; simp only [go_sem, seval]; repeat' (first | exact dt_can ⟨rfl, rfl, rfl, trivial⟩ rfl | with_reducible refine And.intro ?_ ?_ | omega)
    ·show gRun _ _ _ _ _ z5 (fun st' => Ghost _ _ st' z7)
     rw [ez5, ez7]; simp only [go_sem, seval]; repeat' (first | exact dt_can ⟨rfl, rfl, rfl, trivial⟩ rfl | with_reducible refine And.intro ?_ ?_ | omega)
    ·show gRun _ _ _ _ _ z5 (fun st' => Ghost _ _ st' z8)
     rw [ez5, ez8]; simp only [go_sem, seval]; repeat' (first | exact dt_can ⟨rfl, rfl, rfl, trivial⟩ rfl | with_reducible refine And.intro ?_ ?_ | omega)
    ·show gRun _ _ _ _ _ z6 (fun st' => Ghost _ _ st' z7)
     rw [ez6, ez7]; simp only [go_sem, seval]; repeat' (first | exact dt_can ⟨rfl, rfl, rfl, trivial⟩ rfl | with_reducible refine And.intro ?_ ?_ | omega)
    ·show gRun _ _ _ _ _ z6 (fun st' => Ghost _ _ st' z9)
     rw [ez6, ez9]; simp only [go_sem, seval]; repeat' (first | exact dt_can ⟨rfl, rfl, rfl, trivial⟩ rfl | with_reducible refine And.intro ?_ ?_ | omega)
    ·show gRun _ _ _ _ _ z7 (fun st' => Ghost _ _ st' z10)
     rw [ez7, ez10]; simp only [go_sem, seval]; repeat' (first | exact dt_can ⟨rfl, rfl, rfl, trivial⟩ rfl | with_reducible refine And.intro ?_ ?_ | omega)
    ·show gRun _ _ _ _ _ z7 (fun st' => Ghost _ _ st' z11)
     rw [ez7, ez11]; simp only [go_sem, seval]; repeat' (first | exact dt_can ⟨rfl, rfl, trivial⟩ rfl | with_reducible refine And.intro ?_ ?_ | omega)
    ·show gRun _ _ _ _ _ z8 (fun st' => Ghost _ _ st' z11)
     rw [ez8, ez11]; simp only [go_sem, seval]; repeat' (first | exact dt_can ⟨rfl, rfl, trivial⟩ rfl | with_reducible refine And.intro ?_ ?_ | omega)
    ·show gRun _ _ _ _ _ z9 (fun st' => Ghost _ _ st' z10)
     rw [ez9, ez10]; simp only [go_sem, seval]; repeat' (first | exact dt_can ⟨rfl, rfl, rfl, trivial⟩ rfl | with_reducible refine And.intro ?_ ?_ | omega)
    ·show gRun _ _ _ _ _ z10 (fun st' => Ghost _ _ st' z12)
     rw [ez10, ez12]; simp only [go_sem, seval]; repeat' (first | exact dt_can ⟨rfl, rfl, trivial⟩ rfl | with_reducible refine And.intro ?_ ?_ | omega)
    ·show gRun _ _ _ _ _ z11 (fun st' => Ghost _ _ st' z12)
     rw [ez11, ez12]; simp only [go_sem, seval]; repeat' (first | exact dt_can ⟨rfl, rfl, trivial⟩ rfl | with_reducible refine And.intro ?_ ?_ | omega)
    ·show gRun _ _ _ _ _ z12 (fun st' => Ghost _ _ st' z13)
     rw [ez12, ez13]; simp only [go_sem, seval]; exact dt_can ⟨rfl, rfl, trivial⟩ rfl
   show ATs _ _ _ _ _ z13
   rw [ez13]
   clear ez0 ez1 ez2 ez3 ez4 ez5 ez6 ez7 ez8 ez9 ez10 ez11 ez12 ez13 z0 z1 z2 z3 z4 z5 z6 z7 z8 z9 z10 z11 z12 z13
   exact ats_ret ⟨.inr rfl, .tup [.agg [.l3 t], .int (L.getD r.1.toNat 0)], by simp only [resL, resA, go_sem, seval], rfl⟩
  ·have h1 := Nat.pow_pos (n := t.length) (show 0 < 2 by decide)
   have hM := next_ok q.2 ok2 ((2 * 2 ^ t.length : Nat) : Int) (by omega)
   have b2 := nx_bd q.2 (n := ((2 * 2 ^ t.length : Nat) : Int)) (by omega)
   generalize nx q.2 ((2 * 2 ^ t.length : Nat) : Int) = r at *
   rw [hr] at hI
   refine ⟨t, r.1 - 1, lt, ?_⟩
   refine PureCall.introR (n := 37) (rs := [.cell 2 26, .tmp 3]) Tryd.call85 Tryd.func85 rfl rfl rfl (by simp only [List.length_cons, List.length_nil]; omega) (fun cx hcx hrd => ats_of ?_); simp only [argSlots, Nat.zero_add, Nat.reduceAdd]
   refine gB ?_
   (repeat refine ats_seq ?_); refine AT.ghost (st' := ⟨[(0, .lv (bsV c)), (2, .bptr 7 0), (3, .int 0)], [(7, .bx [.nil])]⟩) (ghost_trans (ghost_drop []) (ghost_can [(0, 7)] (by simp only [killL, killA, killAs, killT_srcB, killAs_bsV, qOf, rmT, killH, killT_e, List.filter_cons, List.filter_nil, List.contains_cons, List.contains_nil, Bool.or_false, Bool.or_true, Bool.false_and, Bool.not_true, Bool.not_false, Bool.false_eq_true, if_true, if_false, rnLs, rnL, rn, rns, rns_bsV, sw, SlotsLe, St.get, slotGet, List.map_cons, List.map_nil, seval, AV.int.injEq, AV.bool.injEq, AV.l1.injEq, AV.l2.injEq, AV.l3.injEq, true_and, and_true]) (by simp only [killL, killA, killAs, killT_srcB, killAs_bsV, qOf, rmT, killH, killT_e, List.filter_cons, List.filter_nil, List.contains_cons, List.contains_nil, Bool.or_false, Bool.or_true, Bool.false_and, Bool.not_true, Bool.not_false, Bool.false_eq_true, if_true, if_false, sortH, insH, rnHs, rnH, rnT_e, rnT_srcB, rn, rns, rns_bsV, sw, List.map_cons, List.map_nil, seval]))) ?_
   refine gC fun K hK => ?_
   refine fcall_box (hF) (by simp [Aw.ids]) (by simp [find]) (by simp [closedT, killT_e, killAs, killA, outQ, Aw.ids]) (by simp [killAs, killA, outQ, Aw.ids]) (by simp [Aw.ids]) ?_; simp only [Aw.ids, List.map_cons, List.map_nil, List.filter_cons, List.filter_nil, List.contains_cons, List.contains_nil, Bool.or_false, Bool.or_true, Bool.not_true, Bool.not_false, Nat.reduceBEq, Bool.false_eq_true, if_true, if_false, List.cons_append, List.nil_append]; simp only [go_sem, seval]
   refine hK _ ?_; clear hK K
   refine gC fun K hK => ?_
   refine fcall_box (hA) (by simp [Aw.ids]) (by simp [find]) (by simp [closedT, killT_e, killAs, killA, outQ, Aw.ids]) (by simp [killAs, killA, outQ, Aw.ids]) (by simp [Aw.ids]) ?_; simp only [Aw.ids, List.map_cons, List.map_nil, List.filter_cons, List.filter_nil, List.contains_cons, List.contains_nil, Bool.or_false, Bool.or_true, Bool.not_true, Bool.not_false, Nat.reduceBEq, Bool.false_eq_true, if_true, if_false, List.cons_append, List.nil_append]; simp only [go_sem, seval]
   refine hK _ ?_; clear hK K
   (repeat refine ats_seq ?_); refine AT.ghost (st' := ⟨[(2, .bptr 7 0), (3, .int 0), (4, .bptr 0 0), (5, .bptr 8 0)], [(0, srcB s1), (7, .bx [.nil]), (8, .bx [.l3 t])]⟩) (ghost_trans (ghost_drop [2]) (ghost_can [] (by simp only [killL, killA, killAs, killT_srcB, killAs_bsV, qOf, rmT, killH, killT_e, List.filter_cons, List.filter_nil, List.contains_cons, List.contains_nil, Bool.or_false, Bool.or_true, Bool.false_and, Bool.not_true, Bool.not_false, Bool.false_eq_true, if_true, if_false, rnLs, rnL, rn, rns, rns_bsV, sw, SlotsLe, St.get, slotGet, List.map_cons, List.map_nil, seval, AV.int.injEq, AV.bool.injEq, AV.l1.injEq, AV.l2.injEq, AV.l3.injEq, true_and, and_true]) (by simp only [killL, killA, killAs, killT_srcB, killAs_bsV, qOf, rmT, killH, killT_e, List.filter_cons, List.filter_nil, List.contains_cons, List.contains_nil, Bool.or_false, Bool.or_true, Bool.false_and, Bool.not_true, Bool.not_false, Bool.false_eq_true, if_true, if_false, sortH, insH, rnHs, rnH, rnT_e, rnT_srcB, rn, rns, rns_bsV, sw, List.map_cons, List.map_nil, seval]))) ?_
   (repeat refine ats_seq ?_); refine ats_goU (by first | exact fix0 hcx | exact fix1 hcx rfl | exact fixN hcx rfl) fun K hK => ?_; simp only [go_sem, seval, u_nil, u_cons, UK_ap, ung_eq, gOk_none, gOk_some, List.getElem?_toArray, List.getElem?_cons_zero, List.getElem?_cons_succ, true_and, and_true]
   first | refine fcall_data (hI) rfl ?_ | refine YR_intro (acall_data (hI) rfl) ?_
   simp only [go_sem, seval]
   simp only [go_sem, seval, u_nil, u_cons, UK_ap, ung_eq, gOk_none, gOk_some, List.getElem?_toArray, List.getElem?_cons_zero, List.getElem?_cons_succ, true_and, and_true]
   refine fcall_src (hN) rfl rfl ?_; simp only [go_sem, seval]
   simp only [go_sem, seval, u_nil, u_cons, UK_ap, ung_eq, gOk_none, gOk_some, List.getElem?_toArray, List.getElem?_cons_zero, List.getElem?_cons_succ, true_and, and_true]
   refine hK _ ?_; clear hK K
   refine gI (fun hz => ?_) fun hz => ?_
   ·exact absurd hz hq
   refine ats_skip ?_
   (repeat refine ats_seq ?_); refine AT.ghost (st' := ⟨[(2, .bptr 7 0), (3, .int 0), (4, .bptr 0 0), (5, .bptr 8 0)], [(0, srcB q.2), (7, .bx [.nil]), (8, .bx [.l3 t])]⟩) (ghost_trans (ghost_drop []) (ghost_can [] (by simp only [killL, killA, killAs, killT_srcB, killAs_bsV, qOf, rmT, killH, killT_e, List.filter_cons, List.filter_nil, List.contains_cons, List.contains_nil, Bool.or_false, Bool.or_true, Bool.false_and, Bool.not_true, Bool.not_false, Bool.false_eq_true, if_true, if_false, rnLs, rnL, rn, rns, rns_bsV, sw, SlotsLe, St.get, slotGet, List.map_cons, List.map_nil, seval, AV.int.injEq, AV.bool.injEq, AV.l1.injEq, AV.l2.injEq, AV.l3.injEq, true_and, and_true]) (by simp only [killL, killA, killAs, killT_srcB, killAs_bsV, qOf, rmT, killH, killT_e, List.filter_cons, List.filter_nil, List.contains_cons, List.contains_nil, Bool.or_false, Bool.or_true, Bool.false_and, Bool.not_true, Bool.not_false, Bool.false_eq_true, if_true, if_false, sortH, insH, rnHs, rnH, rnT_e, rnT_srcB, rn, rns, rns_bsV, sw, List.map_cons, List.map_nil, seval]))) ?_
   (repeat refine ats_seq ?_)
   obtain ⟨z0, ez0⟩ : ∃ z : St, z = ⟨[(2, .bptr 7 0), (5, .bptr 8 0), (29, .bptr 0 0)], [(0, srcB q.2), (7, .bx [.nil]), (8, .bx [.l3 t])]⟩ := ⟨_, rfl⟩
   obtain ⟨z1, ez1⟩ : ∃ z : St, z = ⟨[(2, .bptr 7 0), (5, .bptr 8 0), (28, .agg [.l3 t]), (29, .bptr 0 0)], [(0, srcB q.2), (7, .bx [.nil]), (8, .bx [.l3 t])]⟩ := ⟨_, rfl⟩
   obtain ⟨z2, ez2⟩ : ∃ z : St, z = ⟨[(2, .bptr 7 0), (5, .bptr 8 0), (29, .bptr 0 0), (30, .bptr 8 0)], [(0, srcB q.2), (7, .bx [.nil]), (8, .bx [.l3 t])]⟩ := ⟨_, rfl⟩
   obtain ⟨z3, ez3⟩ : ∃ z : St, z = ⟨[(2, .bptr 7 0), (28, .agg [.l3 t]), (29, .bptr 0 0), (30, .bptr 8 0)], [(0, srcB q.2), (7, .bx [.nil]), (8, .bx [.l3 t])]⟩ := ⟨_, rfl⟩
   obtain ⟨z4, ez4⟩ : ∃ z : St, z = ⟨[(2, .bptr 7 0), (5, .bptr 8 0), (29, .bptr 0 0), (31, .l3 t)], [(0, srcB q.2), (7, .bx [.nil]), (8, .bx [.l3 t])]⟩ := ⟨_, rfl⟩
   obtain ⟨z5, ez5⟩ : ∃ z : St, z = ⟨[(2, .bptr 7 0), (28, .agg [.l3 t]), (29, .bptr 0 0), (31, .l3 t)], [(0, srcB q.2), (7, .bx [.nil]), (8, .bx [.l3 t])]⟩ := ⟨_, rfl⟩
   obtain ⟨z6, ez6⟩ : ∃ z : St, z = ⟨[(2, .bptr 7 0), (5, .bptr 8 0), (29, .bptr 0 0), (32, .int t.length)], [(0, srcB q.2), (7, .bx [.nil]), (8, .bx [.l3 t])]⟩ := ⟨_, rfl⟩
   obtain ⟨z7, ez7⟩ : ∃ z : St, z = ⟨[(2, .bptr 7 0), (28, .agg [.l3 t]), (29, .bptr 0 0), (32, .int t.length)], [(0, srcB q.2), (7, .bx [.nil]), (8, .bx [.l3 t])]⟩ := ⟨_, rfl⟩
   obtain ⟨z8, ez8⟩ : ∃ z : St, z = ⟨[(2, .bptr 7 0), (5, .bptr 8 0), (29, .bptr 0 0), (33, .ik .u64 ((t.length : Int) % 18446744073709551616))], [(0, srcB q.2), (7, .bx [.nil]), (8, .bx [.l3 t])]⟩ := ⟨_, rfl⟩
   obtain ⟨z9, ez9⟩ : ∃ z : St, z = ⟨[(2, .bptr 7 0), (28, .agg [.l3 t]), (29, .bptr 0 0), (33, .ik .u64 ((t.length : Int) % 18446744073709551616))], [(0, srcB q.2), (7, .bx [.nil]), (8, .bx [.l3 t])]⟩ := ⟨_, rfl⟩
   obtain ⟨z10, ez10⟩ : ∃ z : St, z = ⟨[(2, .bptr 7 0), (5, .bptr 8 0), (29, .bptr 0 0), (34, .int ((2 * 2 ^ t.length : Nat) : Int))], [(0, srcB q.2), (7, .bx [.nil]), (8, .bx [.l3 t])]⟩ := ⟨_, rfl⟩
   obtain ⟨z11, ez11⟩ : ∃ z : St, z = ⟨[(2, .bptr 7 0), (28, .agg [.l3 t]), (29, .bptr 0 0), (34, .int ((2 * 2 ^ t.length : Nat) : Int))], [(0, srcB q.2), (7, .bx [.nil]), (8, .bx [.l3 t])]⟩ := ⟨_, rfl⟩
   obtain ⟨z12, ez12⟩ : ∃ z : St, z = ⟨[(2, .bptr 7 0), (5, .bptr 8 0), (35, .int r.1)], [(0, srcB r.2), (7, .bx [.nil]), (8, .bx [.l3 t])]⟩ := ⟨_, rfl⟩
   obtain ⟨z13, ez13⟩ : ∃ z : St, z = ⟨[(2, .bptr 7 0), (28, .agg [.l3 t]), (35, .int r.1)], [(0, srcB r.2), (7, .bx [.nil]), (8, .bx [.l3 t])]⟩ := ⟨_, rfl⟩
   obtain ⟨z14, ez14⟩ : ∃ z : St, z = ⟨[(2, .bptr 7 0), (5, .bptr 8 0), (36, .int (r.1 - 1))], [(0, srcB r.2), (7, .bx [.nil]), (8, .bx [.l3 t])]⟩ := ⟨_, rfl⟩
   obtain ⟨z15, ez15⟩ : ∃ z : St, z = ⟨[(2, .bptr 7 0), (28, .agg [.l3 t]), (36, .int (r.1 - 1))], [(0, srcB r.2), (7, .bx [.nil]), (8, .bx [.l3 t])]⟩ := ⟨_, rfl⟩
   obtain ⟨z16, ez16⟩ : ∃ z : St, z = ⟨[(2, .bptr 7 0), (35, .int r.1)], [(0, srcB r.2), (7, .bx [.l3 t]), (8, .bx [.l3 t])]⟩ := ⟨_, rfl⟩
   obtain ⟨z17, ez17⟩ : ∃ z : St, z = ⟨[(2, .bptr 7 0), (36, .int (r.1 - 1))], [(0, srcB r.2), (7, .bx [.l3 t]), (8, .bx [.l3 t])]⟩ := ⟨_, rfl⟩
   obtain ⟨z18, ez18⟩ : ∃ z : St, z = ⟨[(2, .bptr 7 0), (3, .int (r.1 - 1))], [(0, srcB r.2), (7, .bx [.l3 t]), (8, .bx [.l3 t])]⟩ := ⟨_, rfl⟩
   refine ats_table [7] [1] [[1], [0, 1], [1, 2], [0, 1, 2], [1, 2, 3], [0, 1, 2, 3], [1, 2, 3, 4], [0, 1, 2, 3, 4], [1, 2, 3, 4, 5], [0, 1, 2, 3, 4, 5], [1, 2, 3, 4, 5, 6], [0, 1, 2, 3, 4, 5, 6], [1, 2, 3, 4, 5, 6, 7], [0, 1, 2, 3, 4, 5, 6, 7], [1, 2, 3, 4, 5, 6, 7, 8], [0, 1, 2, 3, 4, 5, 6, 7, 8], [0, 1, 2, 3, 4, 5, 6, 7, 9], [0, 1, 2, 3, 4, 5, 6, 7, 8, 9], [0, 1, 2, 3, 4, 5, 6, 7, 8, 9, 10]] [(0, 0, 1), (0, 2, 2), (1, 2, 3), (2, 0, 3), (2, 3, 4), (3, 3, 5), (4, 0, 5), (4, 4, 6), (5, 4, 7), (6, 0, 7), (6, 5, 8), (7, 5, 9), (8, 0, 9), (8, 6, 10), (9, 6, 11), (10, 0, 11), (10, 7, 12), (11, 7, 13), (12, 0, 13), (12, 8, 14), (13, 8, 15), (13, 9, 16), (14, 0, 15), (15, 9, 17), (16, 8, 17), (17, 10, 18)] [z0, z1, z2, z3, z4, z5, z6, z7, z8, z9, z10, z11, z12, z13, z14, z15, z16, z17, z18] hrd (by first | exact fix0 hcx | exact fix1 hcx rfl | exact fixN hcx rfl) mixed (by kernel_rfl) ?_ ?_ ?_
   ·show mvTRun _ _ _ _ _ _ (fun s => Ghost _ _ s z0)
    rw [ez0]; simp only [go_sem, seval]; repeat' (first | exact dt_can ⟨rfl, rfl, rfl, trivial⟩ rfl | with_reducible refine And.intro ?_ ?_ | omega)
   ·refine ⟨?_, ?_, ?_, ?_, ?_, ?_, ?_, ?_, ?_, ?_, ?_, ?_, ?_, ?_, ?_, ?_, ?_, ?_, ?_, ?_, ?_, ?_, ?_, ?_, ?_, ?_, trivial⟩
    ·show gRun _ _ _ _ _ z0 (fun st' => Ghost _ _ st' z1)
     rw [ez0, ez1]; simp only [go_sem, seval]; repeat' (first | exact dt_can ⟨rfl, rfl, rfl, rfl, trivial⟩ rfl | with_reducible refine And.intro ?_ ?_ | omega)
    ·show gRun _ _ _ _ _ z0 (fun st' => Ghost _ _ st' z2)
     rw [ez0, ez2]; simp only [go_sem, seval]; exact dt_can ⟨rfl, rfl, rfl, rfl, trivial⟩ rfl
    ·show gRun _ _ _ _ _ z1 (fun st' => Ghost _ _ st' z3)
     rw [ez1, ez3]; simp only [go_sem, seval]; exact dt_can ⟨rfl, rfl, rfl, rfl, trivial⟩ rfl
    ·show gRun _ _ _ _ _ z2 (fun st' => Ghost _ _ st' z3)
     rw [ez2, ez3]; simp only [go_sem, seval]; repeat' (first | exact dt_can ⟨rfl, rfl, rfl, rfl, trivial⟩ rfl | with_reducible refine And.intro ?_ ?_ | omega)
    ·show gRun _ _ _ _ _ z2 (fun st' => Ghost _ _ st' z4)
     rw [ez2, ez4]; simp only [go_sem, seval]; repeat' (first | exact dt_can ⟨rfl, rfl, rfl, rfl, trivial⟩ rfl | with_reducible refine And.intro ?_ ?_ | omega)
    ·show gRun _ _ _ _ _ z3 (fun st' => Ghost _ _ st' z5)
     rw [ez3, ez5]; simp only [go_sem, seval]; repeat' (first | exact dt_can ⟨rfl, rfl, rfl, rfl, trivial⟩ rfl | with_reducible refine And.intro ?_ ?_ | omega)
    ·show gRun _ _ _ _ _ z4 (fun st' => Ghost _ _ st' z5)
     rw [ez4, ez5]; simp only [go_sem, seval]; repeat' (first | exact dt_can ⟨rfl, rfl, rfl, rfl, trivial⟩ rfl | with_reducible refine And.intro ?_ ?_ | omega)
    ·show gRun _ _ _ _ _ z4 (fun st' => Ghost _ _ st' z6)
     rw [ez4, ez6]; simp only [go_sem, seval]; repeat' (first | exact dt_can ⟨rfl, rfl, rfl, rfl, trivial⟩ rfl | with_reducible refine And.intro ?_ ?_ | omega)
    ·show gRun _ _ _ _ _ z5 (fun st' => Ghost _ _ st' z7)
     rw [ez5, ez7]; simp only [go_sem, seval]; repeat' (first | exact dt_can ⟨rfl, rfl, rfl, rfl, trivial⟩ rfl | with_reducible refine And.intro ?_ ?_ | omega)
    ·show gRun _ _ _ _ _ z6 (fun st' => Ghost _ _ st' z7)
     rw [ez6, ez7]; simp only [go_sem, seval]; repeat' (first | exact dt_can ⟨rfl, rfl, rfl, rfl, trivial⟩ rfl | with_reducible refine And.intro ?_ ?_ | omega)
    ·show gRun _ _ _ _ _ z6 (fun st' => Ghost _ _ st' z8)
     rw [ez6, ez8]; simp only [go_sem, seval]; repeat' (first | exact dt_can ⟨rfl, rfl, rfl, rfl, trivial⟩ rfl | with_reducible refine And.intro ?_ ?_ | omega)
    ·show gRun _ _ _ _ _ z7 (fun st' => Ghost _ _ st' z9)
     rw [ez7, ez9]; simp only [go_sem, seval]; repeat' (first | exact dt_can ⟨rfl, rfl, rfl, rfl, trivial⟩ rfl | with_reducible refine And.intro ?_ ?_ | omega)
    ·show gRun _ _ _ _ _ z8 (fun st' => Ghost _ _ st' z9)
     rw [ez8, ez9]; simp only [go_sem, seval]; repeat' (first | exact dt_can ⟨rfl, rfl, rfl, rfl, trivial⟩ rfl | with_reducible refine And.intro ?_ ?_ | omega)
    ·show gRun _ _ _ _ _ z8 (fun st' => Ghost _ _ st' z10)
     rw [ez8, ez10]; simp only [go_sem, seval]; (try simp only [esh]); repeat' (first | exact dt_can ⟨rfl, rfl, rfl, rfl, trivial⟩ rfl | with_reducible refine And.intro ?_ ?_ | omega)
    ·show gRun _ _ _ _ _ z9 (fun st' => Ghost _ _ st' z11)
     rw [ez9, ez11]; simp only [go_sem, seval]; (try simp only [esh]); repeat' (first | exact dt_can ⟨rfl, rfl, rfl, rfl, trivial⟩ rfl | with_reducible refine And.intro ?_ ?_ | omega)
    ·show gRun _ _ _ _ _ z10 (fun st' => Ghost _ _ st' z11)
     rw [ez10, ez11]; simp only [go_sem, seval]; repeat' (first | exact dt_can ⟨rfl, rfl, rfl, rfl, trivial⟩ rfl | with_reducible refine And.intro ?_ ?_ | omega)
    ·show gRun _ _ _ _ _ z10 (fun st' => Ghost _ _ st' z12)
     rw [ez10, ez12]; simp only [go_sem, seval]; refine fcall_src (hM) rfl rfl ?_; simp only [go_sem, seval]; exact dt_can ⟨rfl, rfl, rfl, trivial⟩ rfl
    ·show gRun _ _ _ _ _ z11 (fun st' => Ghost _ _ st' z13)
     rw [ez11, ez13]; simp only [go_sem, seval]; refine fcall_src (hM) rfl rfl ?_; simp only [go_sem, seval]; exact dt_can ⟨rfl, rfl, rfl, trivial⟩ rfl
    ·show gRun _ _ _ _ _ z12 (fun st' => Ghost _ _ st' z13)
     rw [ez12, ez13]; simp only [go_sem, seval]; repeat' (first | exact dt_can ⟨rfl, rfl, rfl, trivial⟩ rfl | with_reducible refine And.intro ?_ ?_ | omega)
    ·show gRun _ _ _ _ _ z12 (fun st' => Ghost _ _ st' z14)
     rw [ez12, ez14]; simp only [go_sem, seval]; repeat' (first | exact dt_can ⟨rfl, rfl, rfl, trivial⟩ rfl | with_reducible refine And.intro ?_ ?_ | omega)
    ·show gRun _ _ _ _ _ z13 (fun st' => Ghost _ _ st' z15)
     rw [ez13, ez15]; simp only [go_sem, seval]; repeat' (first | exact dt_can ⟨rfl, rfl, rfl, trivial⟩ rfl | with_reducible refine And.intro ?_ ?_ | omega)
    ·show gRun _ _ _ _ _ z13 (fun st' => Ghost _ _ st' z16)
     rw [ez13, ez16]; simp only [go_sem, seval]; repeat' (first | exact dt_can ⟨rfl, rfl, trivial⟩ rfl | with_reducible refine And.intro ?_ ?_ | omega)
    ·show gRun _ _ _ _ _ z14 (fun st' => Ghost _ _ st' z15)
     rw [ez14, ez15]; simp only [go_sem, seval]; repeat' (first | exact dt_can ⟨rfl, rfl, rfl, trivial⟩ rfl | with_reducible refine And.intro ?_ ?_ | omega)
    ·show gRun _ _ _ _ _ z15 (fun st' => Ghost _ _ st' z17)
     rw [ez15, ez17]; simp only [go_sem, seval]; repeat' (first | exact dt_can ⟨rfl, rfl, trivial⟩ rfl | with_reducible refine And.intro ?_ ?_ | omega)
    ·show gRun _ _ _ _ _ z16 (fun st' => Ghost _ _ st' z17)
     rw [ez16, ez17]; simp only [go_sem, seval]; repeat' (first | exact dt_can ⟨rfl, rfl, trivial⟩ rfl | with_reducible refine And.intro ?_ ?_ | omega)
    ·show gRun _ _ _ _ _ z17 (fun st' => Ghost _ _ st' z18)
     rw [ez17, ez18]; simp only [go_sem, seval]; exact dt_can ⟨rfl, rfl, trivial⟩ rfl
   show ATs _ _ _ _ _ z18
   rw [ez18]
   clear ez0 ez1 ez2 ez3 ez4 ez5 ez6 ez7 ez8 ez9 ez10 ez11 ez12 ez13 ez14 ez15 ez16 ez17 ez18 z0 z1 z2 z3 z4 z5 z6 z7 z8 z9 z10 z11 z12 z13 z14 z15 z16 z17 z18
   exact ats_ret ⟨.inr rfl, .tup [.agg [.l3 t], .int (r.1 - 1)], by simp only [resL, resA, go_sem, seval], rfl⟩
theorem DrawIsSubring_ok (c : List Int) (hc : CodeOk c) : ∃ (t : Cu) (x : Int), t.length ≤ 8 ∧ PureCall Tryd.prog 58 [.lv (bsV c)] (.tup [.agg [.l3 t], .int x]) := by
 obtain ⟨t, x, lt, h⟩ := l05Draw_ok c hc
 refine ⟨t, x, lt, ?_⟩
 refine PureCall.introR (n := 13) (rs := [.cell 2 26, .tmp 3]) Tryd.call58 Tryd.func58 rfl rfl rfl (by simp only [List.length_cons, List.length_nil]; omega) (fun cx hcx hrd => ats_of ?_); simp only [argSlots, Nat.zero_add, Nat.reduceAdd]
 refine gB ?_
 refine gC fun K hK => ?_
 refine fcall_data (h) (by first | rfl | simp only [areData, Aw.isData, areData_bsV, Bool.and_true]) ?_; simp only [go_sem, seval]
 refine hK _ ?_; clear hK K
 refine gB ?_
 exact ats_ret ⟨.inr rfl, .tup [.agg [.l3 t], .int x], by simp only [resL, resA, go_sem, seval], rfl⟩
theorem DrawRingOfSubring_ok (c : List Int) (hc : CodeOk c) : ∃ (t : Cu) (x : Int), t.length ≤ 8 ∧ PureCall Tryd.prog 26 [.lv (bsV c)] (.tup [.agg [.l3 t], .int x]) := by
 obtain ⟨t, x, lt, h⟩ := DrawIsSubring_ok c hc
 refine ⟨t, x, lt, ?_⟩
 refine PureCall.introR (n := 8) (rs := [.cell 2 26, .tmp 3]) Tryd.call26 Tryd.func26 rfl rfl rfl (by simp only [List.length_cons, List.length_nil]; omega) (fun cx hcx hrd => ats_of ?_); simp only [argSlots, Nat.zero_add, Nat.reduceAdd]
 refine gB ?_
 refine gC fun K hK => ?_
 refine fcall_data (h) (by first | rfl | simp only [areData, Aw.isData, areData_bsV, Bool.and_true]) ?_; simp only [go_sem, seval]
 refine hK _ ?_; clear hK K
 exact ats_ret ⟨.inr rfl, .tup [.agg [.l3 t], .int x], by simp only [resL, resA, go_sem, seval], rfl⟩
def dsL (n : Int) : Nat → List Int → Src → List Int × Src
 | 0, o, s => (o, s)
 | k + 1, o, s => dsL n k (o ++ [(nx (nx s 24).2 (n + (nx s 24).1 / 23)).1]) (nx (nx s 24).2 (n + (nx s 24).1 / 23)).2
theorem dsL_len {n : Int} : ∀ {k : Nat} {o : List Int} {s : Src}, (dsL n k o s).1.length = o.length + k
 | 0, o, s => rfl
 | k + 1, o, s => by
  unfold dsL
  rw [dsL_len, List.length_append, List.length_singleton]
  omega
set_option maxRecDepth 100000 in
set_option maxHeartbeats 4000000 in
theorem DrawSubringFrom_ok (c : List Int) (hc : CodeOk c) : ∃ (t : Cu) (xs : List Int), t.length ≤ 10 ∧ xs.length ≤ 1048576 ∧ PureCall Tryd.prog 37 [.lv (bsV c)] (.tup [.agg [.l3 t], .l1 xs]) := by
 have hF := from_ok c hc.len hc.byte
 have ok0 := frS_ok hc.len hc.byte
 generalize frS c = s at *
 obtain ⟨t, s1, lt, ok1, hA⟩ := l03DrawAny_ok s ok0 10 (by decide) (by decide)
 have hN := next_ok s1 ok1 3 (by omega)
 have b1 := nx_bd s1 (n := 3) (by omega)
 have ok2 := nx_ok ok1 3
 generalize nx s1 3 = q at *
 unfold AnyC at hA
 obtain ⟨k, ek⟩ : ∃ k : Nat, q.1 = (k : Int) := ⟨q.1.toNat, by omega⟩
 obtain ⟨R, eR⟩ : ∃ R, dsL t.length k [] q.2 = R := ⟨_, rfl⟩
 have hl := dsL_len (n := t.length) (k := k) (o := []) (s := q.2)
 rw [eR] at hl
 refine ⟨t, R.1, lt, by simp at hl; omega, ?_⟩
 refine PureCall.introR (n := 33) (rs := [.cell 2 26, .tmp 3]) Tryd.call37 Tryd.func37 rfl rfl rfl (by simp only [List.length_cons, List.length_nil]; omega) (fun cx hcx hrd => ats_of ?_); simp only [argSlots, Nat.zero_add, Nat.reduceAdd]
 refine gB ?_
 (repeat refine ats_seq ?_); refine AT.ghost (st' := ⟨[(0, .lv (bsV c)), (2, .bptr 7 0), (3, .nil)], [(7, .bx [.nil])]⟩) (ghost_trans (ghost_drop []) (ghost_can [(0, 7)] (by simp only [killL, killA, killAs, killT_srcB, killAs_bsV, qOf, rmT, killH, killT_e, List.filter_cons, List.filter_nil, List.contains_cons, List.contains_nil, Bool.or_false, Bool.or_true, Bool.false_and, Bool.not_true, Bool.not_false, Bool.false_eq_true, if_true, if_false, rnLs, rnL, rn, rns, rns_bsV, sw, SlotsLe, St.get, slotGet, List.map_cons, List.map_nil, seval, AV.int.injEq, AV.bool.injEq, AV.l1.injEq, AV.l2.injEq, AV.l3.injEq, true_and, and_true]) (by simp only [killL, killA, killAs, killT_srcB, killAs_bsV, qOf, rmT, killH, killT_e, List.filter_cons, List.filter_nil, List.contains_cons, List.contains_nil, Bool.or_false, Bool.or_true, Bool.false_and, Bool.not_true, Bool.not_false, Bool.false_eq_true, if_true, if_false, sortH, insH, rnHs, rnH, rnT_e, rnT_srcB, rn, rns, rns_bsV, sw, List.map_cons, List.map_nil, seval]))) ?_
 refine gC fun K hK => ?_
 refine fcall_box (hF) (by simp [Aw.ids]) (by simp [find]) (by simp [closedT, killT_e, killAs, killA, outQ, Aw.ids]) (by simp [killAs, killA, outQ, Aw.ids]) (by simp [Aw.ids]) ?_; simp only [Aw.ids, List.map_cons, List.map_nil, List.filter_cons, List.filter_nil, List.contains_cons, List.contains_nil, Bool.or_false, Bool.or_true, Bool.not_true, Bool.not_false, Nat.reduceBEq, Bool.false_eq_true, if_true, if_false, List.cons_append, List.nil_append]; simp only [go_sem, seval]
 refine hK _ ?_; clear hK K
 refine gC fun K hK => ?_
 refine fcall_box (hA) (by simp [Aw.ids]) (by simp [find]) (by simp [closedT, killT_e, killAs, killA, outQ, Aw.ids]) (by simp [killAs, killA, outQ, Aw.ids]) (by simp [Aw.ids]) ?_; simp only [Aw.ids, List.map_cons, List.map_nil, List.filter_cons, List.filter_nil, List.contains_cons, List.contains_nil, Bool.or_false, Bool.or_true, Bool.not_true, Bool.not_false, Nat.reduceBEq, Bool.false_eq_true, if_true, if_false, List.cons_append, List.nil_append]; simp only [go_sem, seval]
 refine hK _ ?_; clear hK K
 (repeat refine ats_seq ?_); refine AT.ghost (st' := ⟨[(2, .bptr 7 0), (3, .nil), (4, .bptr 0 0), (5, .bptr 8 0)], [(0, srcB s1), (7, .bx [.nil]), (8, .bx [.l3 t])]⟩) (ghost_trans (ghost_drop [2]) (ghost_can [] (by simp only [killL, killA, killAs, killT_srcB, killAs_bsV, qOf, rmT, killH, killT_e, List.filter_cons, List.filter_nil, List.contains_cons, List.contains_nil, Bool.or_false, Bool.or_true, Bool.false_and, Bool.not_true, Bool.not_false, Bool.false_eq_true, if_true, if_false, rnLs, rnL, rn, rns, rns_bsV, sw, SlotsLe, St.get, slotGet, List.map_cons, List.map_nil, seval, AV.int.injEq, AV.bool.injEq, AV.l1.injEq, AV.l2.injEq, AV.l3.injEq, true_and, and_true]) (by simp only [killL, killA, killAs, killT_srcB, killAs_bsV, qOf, rmT, killH, killT_e, List.filter_cons, List.filter_nil, List.contains_cons, List.contains_nil, Bool.or_false, Bool.or_true, Bool.false_and, Bool.not_true, Bool.not_false, Bool.false_eq_true, if_true, if_false, sortH, insH, rnHs, rnH, rnT_e, rnT_srcB, rn, rns, rns_bsV, sw, List.map_cons, List.map_nil, seval]))) ?_
 refine gB ?_
 refine gC fun K hK => ?_
 refine fcall_src (hN) rfl rfl ?_; simp only [go_sem, seval]
 refine hK _ ?_; clear hK K
 rw [ek]
 (repeat refine ats_seq ?_); refine AT.ghost (st' := ⟨[(2, .bptr 7 0), (4, .bptr 0 0), (5, .bptr 8 0), (6, .ref 9 []), (7, .int k)], [(0, srcB q.2), (7, .bx [.nil]), (8, .bx [.l3 t]), (9, .t1 [])]⟩) (ghost_trans (ghost_drop []) (ghost_can [] (by simp only [killL, killA, killAs, killT_srcB, killAs_bsV, qOf, rmT, killH, killT_e, List.filter_cons, List.filter_nil, List.contains_cons, List.contains_nil, Bool.or_false, Bool.or_true, Bool.false_and, Bool.not_true, Bool.not_false, Bool.false_eq_true, if_true, if_false, rnLs, rnL, rn, rns, rns_bsV, sw, SlotsLe, St.get, slotGet, List.map_cons, List.map_nil, seval, AV.int.injEq, AV.bool.injEq, AV.l1.injEq, AV.l2.injEq, AV.l3.injEq, true_and, and_true]) (by simp only [killL, killA, killAs, killT_srcB, killAs_bsV, qOf, rmT, killH, killT_e, List.filter_cons, List.filter_nil, List.contains_cons, List.contains_nil, Bool.or_false, Bool.or_true, Bool.false_and, Bool.not_true, Bool.not_false, Bool.false_eq_true, if_true, if_false, sortH, insH, rnHs, rnH, rnT_e, rnT_srcB, rn, rns, rns_bsV, sw, List.map_cons, List.map_nil, seval]))) ?_
 (repeat refine ats_seq ?_); refine ats_loop (fun x : Nat × List Int × Src => ⟨[(2, .bptr 7 0), (4, .bptr 0 0), (5, .bptr 8 0), (6, .ref 9 []), (7, .int x.1)], [(0, srcB x.2.2), (7, .bx [.nil]), (8, .bx [.l3 t]), (9, .t1 x.2.1)]⟩) (fun x => x.2.2.Ok ∧ x.1 + x.2.1.length ≤ 3 ∧ dsL t.length x.1 x.2.1 x.2.2 = R) (fun x => x.1) (k, [], q.2) ⟨ok2, by dsimp only [List.length_nil]; omega, eR⟩ (by
  refine And.intro ?_ rfl; simp only [leS, Nat.reduceEqDiff, ↓reduceIte, true_and, and_true]
  done) (fun x hx => ?_)
 clear hN hA hF b1 eR hl ek
 obtain ⟨k, o, s2⟩ := x
 dsimp only at hx ⊢
 obtain ⟨ok, hk, eD⟩ := hx
 refine gB ?_
 refine gI (fun hz => ?_) fun hz => ?_
 ·obtain ⟨k, rfl⟩ : ∃ j, k = j + 1 := ⟨k - 1, by omega⟩
  have hN := next_ok s2 ok 24 (by omega)
  have b1 := nx_bd s2 (n := 24) (by omega)
  have ok3 := nx_ok ok 24
  unfold dsL at eD
  generalize nx s2 24 = r at *
  have ed : r.1.tdiv 23 = r.1 / 23 := Int.tdiv_eq_ediv_of_nonneg (by omega)
  have hM := next_ok r.2 ok3 (t.length + r.1 / 23) (by omega)
  have ok4 := nx_ok ok3 (t.length + r.1 / 23)
  generalize nx r.2 (t.length + r.1 / 23) = p at *
  refine ats_skip ?_
  (repeat refine ats_seq ?_); refine ats_block ?_
  (repeat refine ats_seq ?_)
  refine ats_planM [6, 9, 10, 11] [0, 1, 5] (.alt 2 (.alt 3 (.alt 4 (.alt 6 (.one 7 (.one 8 (.alt 9 (.alt 10 (.alt 11 (.one 12 .fin) .stop) .stop) .stop))) .stop) (.alt 6 (.one 4 (.one 7 (.one 8 (.alt 9 (.alt 10 (.alt 11 (.one 12 .fin) .stop) .stop) .stop)))) .stop)) (.alt 6 (.one 3 (.one 4 (.one 7 (.one 8 (.alt 9 (.alt 10 (.alt 11 (.one 12 .fin) .stop) .stop) .stop))))) .stop)) (.alt 6 (.one 2 (.one 3 (.one 4 (.one 7 (.one 8 (.alt 9 (.alt 10 (.alt 11 (.one 12 .fin) .stop) .stop) .stop)))))) .stop)) ⟨[(2, .bptr 7 0), (4, .bptr 0 0), (5, .bptr 8 0), (6, .ref 9 []), (7, .int ((k + 1 : Nat) : Int))], [(0, srcB p.2), (7, .bx [.nil]), (8, .bx [.l3 t]), (9, .t1 (o ++ [p.1])), (10, .t1 [p.1])]⟩ hrd (fix0 hcx) mixed (by kernel_rfl) (fun K hK => ?_) ?_
  ·as_aux_lemma =>
    simp only [go_sem, seval, Option.getD_some, and_true, true_and, and_self, List.contains_cons, List.contains_nil, Bool.or_false, Bool.or_true]
    repeat' (first | exact hK _ (by refine And.intro ?_ rfl; simp only [leS, Nat.reduceEqDiff, ↓reduceIte, true_and, and_true]) | with_reducible refine And.intro ?_ ?_ | omega | ((refine fcall_src hN rfl rfl ?_; simp only [go_sem, seval, ed, Option.getD_some, and_true, true_and, and_self, List.contains_cons, List.contains_nil, Bool.or_false, Bool.or_true])) | ((refine fcall_src hM rfl rfl ?_; simp only [go_sem, seval, ed, Option.getD_some, and_true, true_and, and_self, List.contains_cons, List.contains_nil, Bool.or_false, Bool.or_true])))
  (repeat refine ats_seq ?_); refine AT.ghost (st' := ⟨[(2, .bptr 7 0), (4, .bptr 0 0), (5, .bptr 8 0), (6, .ref 9 []), (7, .int ((k + 1 : Nat) : Int))], [(0, srcB p.2), (7, .bx [.nil]), (8, .bx [.l3 t]), (9, .t1 (o ++ [p.1]))]⟩) (ghost_trans (ghost_drop [10]) (ghost_can [] (by simp only [killL, killA, killAs, killT_srcB, killAs_bsV, qOf, rmT, killH, killT_e, List.filter_cons, List.filter_nil, List.contains_cons, List.contains_nil, Bool.or_false, Bool.or_true, Bool.false_and, Bool.not_true, Bool.not_false, Bool.false_eq_true, if_true, if_false, rnLs, rnL, rn, rns, rns_bsV, sw, SlotsLe, St.get, slotGet, List.map_cons, List.map_nil, seval, AV.int.injEq, AV.bool.injEq, AV.l1.injEq, AV.l2.injEq, AV.l3.injEq, true_and, and_true]) (by simp only [killL, killA, killAs, killT_srcB, killAs_bsV, qOf, rmT, killH, killT_e, List.filter_cons, List.filter_nil, List.contains_cons, List.contains_nil, Bool.or_false, Bool.or_true, Bool.false_and, Bool.not_true, Bool.not_false, Bool.false_eq_true, if_true, if_false, sortH, insH, rnHs, rnH, rnT_e, rnT_srcB, rn, rns, rns_bsV, sw, List.map_cons, List.map_nil, seval]))) ?_
  refine gB ?_
  refine ⟨(k, o ++ [p.1], p.2),  ⟨ok4, by dsimp only; rw [List.length_append, List.length_singleton]; omega, eD⟩, by omega, .inl ⟨by simp only [leS, Nat.reduceEqDiff, ↓reduceIte, true_and, and_true]; omega,  rfl⟩⟩
 ·obtain rfl : k = 0 := by omega
  have eD' : (o, s2) = R := eD
  subst eD'
  refine ats_exit (lq_x ?_)
  refine gA ?_
  (repeat refine ats_seq ?_); refine AT.ghost (ghost_frz [9]) ?_; simp only [frzV, find, killA, killAs, killT_srcB, killAs_bsV, qOf, rmT, killH, killT_e, List.map_cons, List.map_nil, List.filter_cons, List.filter_nil, List.contains_cons, List.contains_nil, Bool.or_false, Bool.or_true, Bool.false_and, Bool.not_true, Bool.not_false, Bool.false_eq_true, if_true, if_false, seval]
  exact ats_ret ⟨.inr rfl, .tup [.agg [.l3 t], .l1 o], by simp only [resL, resA, go_sem, seval], rfl⟩
end Go.Proofs.YtfnokakbdehlgaaDoor
