import Derived.Test.YtmjcbgpbhlheoaaSz2
import Derived.Test.YtmjcbgpbhlheoaaRz1
import Derived.Test.YtmjcbgpbhlheoaaQz1
import Derived.Test.YtmjcbgpbhlheoaaJz4
import Derived.Test.YtmjcbgpbhlheoaaJz3
import Derived.Test.YtmjcbgpbhlheoaaBb
set_option linter.unusedSimpArgs false
set_option linter.unusedVariables false
namespace Go.Proofs.Ytmjcbgpbhlheoaa
open Go Go.Aw Go.Pl
theorem dOrdL_len (most : Int) : ∀ (k : Nat) (o : List Int) (z : Int) (s : Src), (dOrdL most k o z s).1.length ≤ o.length + k
 | 0, _, _, _ => Nat.le_refl _
 | k + 1, o, z, s => by
  unfold dOrdL
  split
  ·have := dOrdL_len most k (o ++ [2 + (nx (nx s 2).2 (most / z - 1)).1]) (z * (2 + (nx (nx s 2).2 (most / z - 1)).1)) (nx (nx s 2).2 (most / z - 1)).2
   rw [List.length_append, List.length_singleton] at this
   omega
  ·exact Nat.le_add_right _ _
theorem dOrd_len (s : Src) (most : Int) : (dOrd s most).1.length ≤ 4 := dOrdL_len most 3 _ _ _
theorem DrawGroupRing_ok (c : List Int) (hc : CodeOk c) : ∃ o : List Int, PureCall Try.prog 5 [.lv (bsV c)] (.l1 o) := by
 have hF := from_ok c hc.len hc.byte
 have ok0 := frS_ok hc.len hc.byte
 generalize frS c = s at *
 have hO : OwnCall Try.prog 25 [.bptr 0 0, .int 12] [(0, srcB s)] [(0, srcB (dOrd s 12).2), (1, .t1 (dOrd s 12).1)] (.ref 1 []) [0] := l06DrawOrders_ok s ok0 12 (by decide) (by decide)
 obtain ⟨hp, h12, jj, -, -, hMv⟩ := dOrd_fact ok0 (most := 12) (by decide)
 have okd := hMv.ok ok0
 have hlen : (dOrd s 12).1.length ≤ 4 := dOrd_len s 12
 generalize dOrd s 12 = d at *
 have hN := next_ok d.2 okd 16 (by decide)
 have b1 := nx_bd d.2 (n := 16) (by decide)
 have ok2 := nx_ok okd 16
 generalize nx d.2 16 = q at *
 have hP := pick2_ok q.2 ok2 [0, 13, -2] (by decide) (by decide)
 rw [show (([0, 13, -2] : List Int).length : Int) = 3 from rfl] at hP
 generalize nx q.2 3 = p at *
 obtain ⟨v, ev⟩ : ∃ v, ([0, 13, -2] : List Int).getD p.1.toNat 0 = v := ⟨_, rfl⟩
 rw [ev] at hP
 clear ev
 by_cases h0 : q.1 = 0
 ·refine ⟨d.1 ++ [v], ?_⟩
  refine PureCall.introR (n := 22) (rs := [.tmp 2]) Try.call5 Try.func5 rfl rfl rfl (by simp only [List.length_cons, List.length_nil]; omega) (fun cx hcx hrd => ats_of ?_); simp only [argSlots, Nat.zero_add, Nat.reduceAdd]
  refine gB ?_
  refine gC fun K hK => ?_
  refine fcall_box (hF) (by simp [Aw.ids]) (by simp [find]) (by simp [closedT, killT_e, killAs, killA, outQ, Aw.ids]) (by simp [killAs, killA, outQ, Aw.ids]) (by simp [Aw.ids]) ?_; simp only [Aw.ids, List.map_cons, List.map_nil, List.filter_cons, List.filter_nil, List.contains_cons, List.contains_nil, Bool.or_false, Bool.or_true, Bool.not_true, Bool.not_false, Nat.reduceBEq, Bool.false_eq_true, if_true, if_false, List.cons_append, List.nil_append]; simp only [go_sem, seval]
  refine hK _ ?_; clear hK K
  refine gC fun K hK => ?_
  refine fcall_box (hO) (by simp [Aw.ids]) (by simp [find]) (by simp [closedT, killT_e, killAs, killA, outQ, Aw.ids]) (by simp [killAs, killA, outQ, Aw.ids]) (by simp [Aw.ids]) ?_; simp only [Aw.ids, List.map_cons, List.map_nil, List.filter_cons, List.filter_nil, List.contains_cons, List.contains_nil, Bool.or_false, Bool.or_true, Bool.not_true, Bool.not_false, Nat.reduceBEq, Bool.false_eq_true, if_true, if_false, List.cons_append, List.nil_append]; simp only [go_sem, seval]
  refine hK _ ?_; clear hK K
  (repeat refine ats_seq ?_); refine AT.ghost (st' := ⟨[(2, .nil), (3, .bptr 0 0), (4, .ref 1 [])], [(0, srcB d.2), (1, .t1 d.1)]⟩) (ghost_can [] (by simp only [rnLs, rnL, rn, rns, rns_bsV, sw, SlotsLe, St.get, slotGet, List.map_cons, List.map_nil, seval, AV.int.injEq, AV.bool.injEq, AV.l1.injEq, AV.l2.injEq, AV.l3.injEq, true_and, and_true]) (by simp only [sortH, insH, rnHs, rnH, rnT_e, rnT_srcB, rn, rns, rns_bsV, sw, List.map_cons, List.map_nil, seval])) ?_
  refine gC fun K hK => ?_
  refine fcall_src (hN) rfl rfl ?_; simp only [go_sem, seval]
  refine hK _ ?_; clear hK K
  (repeat refine ats_seq ?_); refine ats_block ?_
  refine gB ?_
  refine gI (fun hc1 => ?_) fun hc1 => ?_
  ·(repeat refine ats_seq ?_); refine AT.ghost (st' := ⟨[(2, .nil), (3, .bptr 0 0), (4, .ref 1 [])], [(0, srcB q.2), (1, .t1 d.1)]⟩) (ghost_can [] (by simp only [rnLs, rnL, rn, rns, rns_bsV, sw, SlotsLe, St.get, slotGet, List.map_cons, List.map_nil, seval, AV.int.injEq, AV.bool.injEq, AV.l1.injEq, AV.l2.injEq, AV.l3.injEq, true_and, and_true]) (by simp only [sortH, insH, rnHs, rnH, rnT_e, rnT_srcB, rn, rns, rns_bsV, sw, List.map_cons, List.map_nil, seval])) ?_
   refine gC fun K hK => ?_
   refine fcall_box (hP) (by simp [Aw.ids]) (by simp [find]) (by simp [closedT, killT_e, killAs, killA, outQ, Aw.ids]) (by simp [killAs, killA, outQ, Aw.ids]) (by simp [Aw.ids]) ?_; simp only [Aw.ids, List.map_cons, List.map_nil, List.filter_cons, List.filter_nil, List.contains_cons, List.contains_nil, Bool.or_false, Bool.or_true, Bool.not_true, Bool.not_false, Nat.reduceBEq, Bool.false_eq_true, if_true, if_false, List.cons_append, List.nil_append]; simp only [go_sem, seval]
   (repeat refine aI (hb := ?_))
   refine hK _ ?_; clear hK K
   (repeat refine ats_seq ?_); refine AT.ghost (st' := ⟨[(2, .nil), (4, .ref 1 [])], [(1, .t1 (d.1 ++ [v]))]⟩) (ghost_trans (ghost_drop [0, 2, 3]) (ghost_can [] (by simp only [killL, killA, killAs, killT_srcB, killAs_bsV, qOf, rmT, killH, killT_e, List.filter_cons, List.filter_nil, List.contains_cons, List.contains_nil, Bool.or_false, Bool.or_true, Bool.false_and, Bool.not_true, Bool.not_false, Bool.false_eq_true, if_true, if_false, rnLs, rnL, rn, rns, rns_bsV, sw, SlotsLe, St.get, slotGet, List.map_cons, List.map_nil, seval, AV.int.injEq, AV.bool.injEq, AV.l1.injEq, AV.l2.injEq, AV.l3.injEq, true_and, and_true]) (by simp only [killL, killA, killAs, killT_srcB, killAs_bsV, qOf, rmT, killH, killT_e, List.filter_cons, List.filter_nil, List.contains_cons, List.contains_nil, Bool.or_false, Bool.or_true, Bool.false_and, Bool.not_true, Bool.not_false, Bool.false_eq_true, if_true, if_false, sortH, insH, rnHs, rnH, rnT_e, rnT_srcB, rn, rns, rns_bsV, sw, List.map_cons, List.map_nil, seval]))) ?_
   refine gB ?_
   (repeat refine ats_seq ?_); refine AT.ghost (ghost_frz [1]) ?_; simp only [frzV, find, killA, killAs, killT_srcB, killAs_bsV, qOf, rmT, killH, killT_e, List.map_cons, List.map_nil, List.filter_cons, List.filter_nil, List.contains_cons, List.contains_nil, Bool.or_false, Bool.or_true, Bool.false_and, Bool.not_true, Bool.not_false, Bool.false_eq_true, if_true, if_false, seval]
   exact ats_ret ⟨.inr rfl, .l1 _, by simp only [resL, resA, go_sem, seval], rfl⟩
  ·exact absurd h0 hc1
 ·by_cases h1 : q.1 = 1
  ·refine ⟨[], pure_le (?_ : PureCall Try.prog 5 [.lv (bsV c)] .nil) avLe_nil1⟩
   refine PureCall.introR (n := 22) (rs := [.tmp 2]) Try.call5 Try.func5 rfl rfl rfl (by simp only [List.length_cons, List.length_nil]; omega) (fun cx hcx hrd => ats_of ?_); simp only [argSlots, Nat.zero_add, Nat.reduceAdd]
   refine gB ?_
   refine gC fun K hK => ?_
   refine fcall_box (hF) (by simp [Aw.ids]) (by simp [find]) (by simp [closedT, killT_e, killAs, killA, outQ, Aw.ids]) (by simp [killAs, killA, outQ, Aw.ids]) (by simp [Aw.ids]) ?_; simp only [Aw.ids, List.map_cons, List.map_nil, List.filter_cons, List.filter_nil, List.contains_cons, List.contains_nil, Bool.or_false, Bool.or_true, Bool.not_true, Bool.not_false, Nat.reduceBEq, Bool.false_eq_true, if_true, if_false, List.cons_append, List.nil_append]; simp only [go_sem, seval]
   refine hK _ ?_; clear hK K
   refine gC fun K hK => ?_
   refine fcall_box (hO) (by simp [Aw.ids]) (by simp [find]) (by simp [closedT, killT_e, killAs, killA, outQ, Aw.ids]) (by simp [killAs, killA, outQ, Aw.ids]) (by simp [Aw.ids]) ?_; simp only [Aw.ids, List.map_cons, List.map_nil, List.filter_cons, List.filter_nil, List.contains_cons, List.contains_nil, Bool.or_false, Bool.or_true, Bool.not_true, Bool.not_false, Nat.reduceBEq, Bool.false_eq_true, if_true, if_false, List.cons_append, List.nil_append]; simp only [go_sem, seval]
   refine hK _ ?_; clear hK K
   (repeat refine ats_seq ?_); refine AT.ghost (st' := ⟨[(2, .nil), (3, .bptr 0 0), (4, .ref 1 [])], [(0, srcB d.2), (1, .t1 d.1)]⟩) (ghost_can [] (by simp only [rnLs, rnL, rn, rns, rns_bsV, sw, SlotsLe, St.get, slotGet, List.map_cons, List.map_nil, seval, AV.int.injEq, AV.bool.injEq, AV.l1.injEq, AV.l2.injEq, AV.l3.injEq, true_and, and_true]) (by simp only [sortH, insH, rnHs, rnH, rnT_e, rnT_srcB, rn, rns, rns_bsV, sw, List.map_cons, List.map_nil, seval])) ?_
   refine gC fun K hK => ?_
   refine fcall_src (hN) rfl rfl ?_; simp only [go_sem, seval]
   refine hK _ ?_; clear hK K
   (repeat refine ats_seq ?_); refine ats_block ?_
   refine gB ?_
   refine gI (fun hc1 => ?_) fun hc1 => ?_
   ·exact absurd hc1 h0
   ·refine gB ?_
    refine gI (fun hc2 => ?_) fun hc2 => ?_
    ·refine gB ?_
     refine gB ?_
     exact ats_ret ⟨.inr rfl, .nil, by simp only [resL, resA, go_sem, seval], rfl⟩
    ·exact absurd h1 hc2
  ·refine ⟨d.1, ?_⟩
   refine PureCall.introR (n := 22) (rs := [.tmp 2]) Try.call5 Try.func5 rfl rfl rfl (by simp only [List.length_cons, List.length_nil]; omega) (fun cx hcx hrd => ats_of ?_); simp only [argSlots, Nat.zero_add, Nat.reduceAdd]
   refine gB ?_
   refine gC fun K hK => ?_
   refine fcall_box (hF) (by simp [Aw.ids]) (by simp [find]) (by simp [closedT, killT_e, killAs, killA, outQ, Aw.ids]) (by simp [killAs, killA, outQ, Aw.ids]) (by simp [Aw.ids]) ?_; simp only [Aw.ids, List.map_cons, List.map_nil, List.filter_cons, List.filter_nil, List.contains_cons, List.contains_nil, Bool.or_false, Bool.or_true, Bool.not_true, Bool.not_false, Nat.reduceBEq, Bool.false_eq_true, if_true, if_false, List.cons_append, List.nil_append]; simp only [go_sem, seval]
   refine hK _ ?_; clear hK K
   refine gC fun K hK => ?_
   refine fcall_box (hO) (by simp [Aw.ids]) (by simp [find]) (by simp [closedT, killT_e, killAs, killA, outQ, Aw.ids]) (by simp [killAs, killA, outQ, Aw.ids]) (by simp [Aw.ids]) ?_; simp only [Aw.ids, List.map_cons, List.map_nil, List.filter_cons, List.filter_nil, List.contains_cons, List.contains_nil, Bool.or_false, Bool.or_true, Bool.not_true, Bool.not_false, Nat.reduceBEq, Bool.false_eq_true, if_true, if_false, List.cons_append, List.nil_append]; simp only [go_sem, seval]
   refine hK _ ?_; clear hK K
   (repeat refine ats_seq ?_); refine AT.ghost (st' := ⟨[(2, .nil), (3, .bptr 0 0), (4, .ref 1 [])], [(0, srcB d.2), (1, .t1 d.1)]⟩) (ghost_can [] (by simp only [rnLs, rnL, rn, rns, rns_bsV, sw, SlotsLe, St.get, slotGet, List.map_cons, List.map_nil, seval, AV.int.injEq, AV.bool.injEq, AV.l1.injEq, AV.l2.injEq, AV.l3.injEq, true_and, and_true]) (by simp only [sortH, insH, rnHs, rnH, rnT_e, rnT_srcB, rn, rns, rns_bsV, sw, List.map_cons, List.map_nil, seval])) ?_
   refine gC fun K hK => ?_
   refine fcall_src (hN) rfl rfl ?_; simp only [go_sem, seval]
   refine hK _ ?_; clear hK K
   (repeat refine ats_seq ?_); refine ats_block ?_
   refine gB ?_
   refine gI (fun hc1 => ?_) fun hc1 => ?_
   ·exact absurd hc1 h0
   ·refine gB ?_
    refine gI (fun hc2 => ?_) fun hc2 => ?_
    ·exact absurd hc2 h1
    ·refine ats_skip ?_
     refine gB ?_
     (repeat refine ats_seq ?_); refine AT.ghost (ghost_frz [1]) ?_; simp only [frzV, find, killA, killAs, killT_srcB, killAs_bsV, qOf, rmT, killH, killT_e, List.map_cons, List.map_nil, List.filter_cons, List.filter_nil, List.contains_cons, List.contains_nil, Bool.or_false, Bool.or_true, Bool.false_and, Bool.not_true, Bool.not_false, Bool.false_eq_true, if_true, if_false, seval]
     exact ats_ret ⟨.inr rfl, .l1 d.1, by simp only [resL, resA, go_sem, seval], rfl⟩
theorem DrawNearGroup_ok (c : List Int) (hc : CodeOk c) : ∃ (o : List Int) (k : Int), PureCall Try.prog 15 [.lv (bsV c)] (.tup [.l1 o, .int k]) := by
 have hF := from_ok c hc.len hc.byte
 have ok0 := frS_ok hc.len hc.byte
 generalize frS c = s at *
 obtain ⟨o, hD⟩ := DrawGroupRing_ok c hc
 have hN := next_ok s ok0 100 (by decide)
 have b1 := nx_bd s (n := 100) (by decide)
 have ok2 := nx_ok ok0 100
 generalize nx s 100 = q at *
 have hP := pick1_ok q.2 ok2 [0, 1, 2, 5, 1000, 1001, -1, q.1] (show 1 ≤ 8 by decide) (show 8 ≤ 1048576 by decide)
 rw [show (([0, 1, 2, 5, 1000, 1001, -1, q.1] : List Int).length : Int) = 8 from rfl] at hP
 generalize nx q.2 8 = p at *
 obtain ⟨v, ev⟩ : ∃ v, ([0, 1, 2, 5, 1000, 1001, -1, q.1] : List Int).getD p.1.toNat 0 = v := ⟨_, rfl⟩
 rw [ev] at hP
 clear ev
 refine ⟨o, v, ?_⟩
 refine PureCall.introR (n := 14) (rs := [.tmp 2, .tmp 3]) Try.call15 Try.func15 rfl rfl rfl (by simp only [List.length_cons, List.length_nil]; omega) (fun cx hcx hrd => ats_of ?_); simp only [argSlots, Nat.zero_add, Nat.reduceAdd]
 refine gB ?_
 refine gC fun K hK => ?_
 refine fcall_box (hF) (by simp [Aw.ids]) (by simp [find]) (by simp [closedT, killT_e, killAs, killA, outQ, Aw.ids]) (by simp [killAs, killA, outQ, Aw.ids]) (by simp [Aw.ids]) ?_; simp only [Aw.ids, List.map_cons, List.map_nil, List.filter_cons, List.filter_nil, List.contains_cons, List.contains_nil, Bool.or_false, Bool.or_true, Bool.not_true, Bool.not_false, Nat.reduceBEq, Bool.false_eq_true, if_true, if_false, List.cons_append, List.nil_append]; simp only [go_sem, seval]
 refine hK _ ?_; clear hK K
 refine gC fun K hK => ?_
 refine fcall_data (hD) (by first | rfl | simp only [areData, Aw.isData, areData_bsV, Bool.and_true]) ?_; simp only [go_sem, seval]
 refine fcall_src (hN) rfl rfl ?_; simp only [go_sem, seval]
 (repeat refine aI (hb := ?_))
 refine fcall_box (hP) (by simp [Aw.ids]) (by simp [find]) (by simp [closedT, killT_e, killAs, killA, outQ, Aw.ids]) (by simp [killAs, killA, outQ, Aw.ids]) (by simp [Aw.ids]) ?_; simp only [Aw.ids, List.map_cons, List.map_nil, List.filter_cons, List.filter_nil, List.contains_cons, List.contains_nil, Bool.or_false, Bool.or_true, Bool.not_true, Bool.not_false, Nat.reduceBEq, Bool.false_eq_true, if_true, if_false, List.cons_append, List.nil_append]; simp only [go_sem, seval]
 refine hK _ ?_; clear hK K
 exact ats_ret ⟨.inr rfl, .tup [.l1 o, .int v], by simp only [resL, resA, go_sem, seval], rfl⟩
theorem wd_of {t : Cu} (h : RingP t) {d : Nat → Int} (hd : DimF t d) : PureCall Try.prog 20 [.agg [.l3 t]] (.tup [.int (sumTo (fun k => d k * d k) t.length), .int 0]) := by
 have hw := implWd_ok t
 have hb := (both_find h hd).1
 have e : idR t = (some (dnL t), 0) := by
  unfold idR
  rw [h.faults, if_pos rfl, bd_true (dimP_of hd hb), if_pos rfl]
 rw [e] at hw
 have es : dot (dnL t) (dnL t) = sumTo (fun k => d k * d k) t.length := by
  unfold dot
  rw [(dnL_bd h).1]
  exact sum_congr fun k hk => by unfold dotG; rw [hb k hk]
 rw [← es]
 exact hw
theorem grp_facts (o : List Int) (hc : (grpR o).2 = 0) : PureCall Try.prog 9 [.agg [.l3 (grpR o).1]] (.tup [.bool true, .int 0]) ∧ PureCall Try.prog 10 [.agg [.l3 (grpR o).1]] (.tup [.bool true, .int 0]) := by
 have e : oCode o 16 = 0 := by
  unfold grpR at hc
  by_cases c : oCode o 16 = 0
  ·exact c
  ·rw [if_neg c] at hc; exact hc
 have et : (grpR o).1 = grpT o 0 := by unfold grpR; rw [if_pos e]
 rcases o_cases o 16 with ⟨h, hp, -⟩ | ⟨-, -, e2⟩ | ⟨-, e2⟩
 ·have hR := grp_ringP h hp
  rw [et]
  constructor
  ·have := implPtd_ok (grpT o 0)
   rw [hR.faults, if_pos rfl, decide_eq_true (grp_point h hp)] at this
   exact this
  ·have := implCm_ok (grpT o 0)
   rw [hR.faults, if_pos rfl, bd_true (grp_comm h)] at this
   exact this
 ·omega
 ·omega
theorem nr_facts (o : List Int) (k : Int) (hc : (nrR o k).2 = 0) : isRing (nrR o k).1 = true := by
 unfold nrR at hc ⊢
 rcases o_cases o 15 with ⟨h, hp, e⟩ | ⟨-, -, e⟩ | ⟨-, e⟩
 ·rw [if_neg (by omega)] at hc ⊢
  by_cases hk : 0 ≤ k ∧ k ≤ 1000
  ·rw [if_pos hk, if_pos e]
   exact (near_ringP h hp hk.1 hk.2).faults
  ·rw [if_neg hk] at hc
   exact absurd hc (by decide)
 ·rw [if_neg (by omega)] at hc
  by_cases hk : 0 ≤ k ∧ k ≤ 1000
  ·rw [if_pos hk, if_neg (by omega)] at hc
   exact absurd hc (by decide)
  ·rw [if_neg hk] at hc
   exact absurd hc (by decide)
 ·rw [if_pos e] at hc
  exact absurd hc (by decide)
theorem dh_facts (n : Int) (hc : (dhR n).2 = 0) : PureCall Try.prog 20 [.agg [.l3 (dhR n).1]] (.tup [.int (2 * n), .int 0]) ∧ isRing (dhR n).1 = true := by
 unfold dhR at hc ⊢
 by_cases hn : 1 ≤ n ∧ n ≤ 18
 ·rw [if_pos hn]
  obtain ⟨m, rfl⟩ : ∃ m : Nat, n = m := ⟨n.toNat, by omega⟩
  rw [Int.toNat_natCast]
  obtain ⟨hR, d, hd, es⟩ := dih_all m (by omega) (by omega)
  have := wd_of hR hd
  rw [es] at this
  exact ⟨this, hR.faults⟩
 ·rw [if_neg hn] at hc
  exact absurd hc (by decide)
theorem dg_facts (n : Int) (hn : 1 ≤ n ∧ n ≤ 8) : PureCall Try.prog 20 [.agg [.l3 (dhgT n.toNat)]] (.tup [.int (2 * n), .int 0]) ∧ PureCall Try.prog 10 [.agg [.l3 (dhgT n.toNat)]] (.tup [.bool (decide (n ≤ 2)), .int 0]) := by
 obtain ⟨m, rfl⟩ : ∃ m : Nat, n = m := ⟨n.toNat, by omega⟩
 rw [Int.toNat_natCast]
 have hR := dhg_ringP (n := m) (by omega) (by omega)
 constructor
 ·have := wd_of hR (dhg_dim (by omega) (by omega))
  have e : sumTo (fun _ => (1 : Int) * 1) (dhgT m).length = 2 * (m : Int) := by
   rw [sum_const, dhgT_eq, cubF_length]
   push_cast
   omega
  rw [e] at this
  exact this
 ·have := implCm_ok (dhgT m)
  have e : bd (CommP (dhgT m)) = decide ((m : Int) ≤ 2) := by
   rw [Bool.eq_iff_iff, bd_iff, decide_eq_true_eq, dhg_comm (by omega) (by omega)]
   omega
  rw [hR.faults, if_pos rfl, e] at this
  exact this
end Go.Proofs.Ytmjcbgpbhlheoaa
namespace Go.Proofs.Ytmjcbgpbhlheoaa
open Go Go.Aw Go.Pl
set_option maxRecDepth 100000 in
set_option maxHeartbeats 4000000 in
theorem fnFamilies_ok (c : List Int) (hb : ByteOk c) : PureCall Try.prog 3 [.lv (bsV c)] (.bool true) := by
 have hbig := big_ok c
 by_cases hlen : 4096 < c.length
 ·rw [decide_eq_true hlen] at hbig
  refine PureCall.intro (n := 264) (rs := [.tmp 2]) Try.call3 Try.func3 rfl rfl rfl (by simp only [List.length_cons, List.length_nil]; omega) (fun cx hcx => ats_of ?_); simp only [argSlots, Nat.zero_add, Nat.reduceAdd]
  refine gB ?_
  refine gC fun K hK => ?_
  refine fcall_data (hbig) (by first | rfl | simp only [areData, Aw.isData, areData_bsV, Bool.and_true]) ?_; simp only [go_sem, seval]
  refine hK _ ?_; clear hK K
  (repeat refine ats_seq ?_); refine ats_yes rfl trivial ?_
  refine gB ?_
  refine ats_ret (finB rfl ?_)
  rfl
 ·rw [decide_eq_false hlen] at hbig
  have hc : CodeOk c := ⟨by omega, hb⟩
  obtain ⟨o, hD1⟩ := DrawGroupRing_ok c hc
  obtain ⟨o2, k, hD2⟩ := DrawNearGroup_ok c hc
  obtain ⟨n, n0, n19, hD3⟩ := DrawDihedralRing_ok c hc
  obtain ⟨m, m0, m9, hD4⟩ := DrawDihedralGroupRing_ok c hc
  have a1 := implGrp_ok o
  have a2 := specGrp_ok o
  have a3 := grp_facts o
  generalize grpR o = A at *
  obtain ⟨T1, c1⟩ := A
  have b1 := implTy_ok o
  have b2 := specTy_ok o
  have b3 := implNr_ok o 0
  have b4 := nr_facts o 0
  generalize nrR o 0 = A at *
  obtain ⟨T2, c2⟩ := A
  have d1 := implNr_ok o2 k
  have d2 := specNr_ok o2 k
  have d4 := nr_facts o2 k
  generalize nrR o2 k = A at *
  obtain ⟨T3, c3⟩ := A
  have e1 := implDh_ok n
  have e2 := specDh_ok n
  have e3 := dh_facts n
  generalize dhR n = A at *
  obtain ⟨T4, c4⟩ := A
  have f1 := implDg_ok m
  have f2 := specDg_ok m
  have f3 := dg_facts m
  dsimp only at *
  have r1 := ring9_ok T1 T1
  have r2 := ring9_ok T2 T2
  have r3 := ring9_ok T3 T3
  have r4 := ring9_ok T4 T4
  rw [decide_eq_true rfl] at r1 r2 r3 r4
  have i2 := IsRing_ok T2
  have i3 := IsRing_ok T3
  have i4 := IsRing_ok T4
  refine PureCall.intro (n := 264) (rs := [.tmp 2]) Try.call3 Try.func3 rfl rfl rfl (by simp only [List.length_cons, List.length_nil]; omega) (fun cx hcx => ats_of ?_); simp only [argSlots, Nat.zero_add, Nat.reduceAdd]
  refine gB ?_
  refine gC fun K hK => ?_
  refine fcall_data (hbig) (by first | rfl | simp only [areData, Aw.isData, areData_bsV, Bool.and_true]) ?_; simp only [go_sem, seval]
  refine hK _ ?_; clear hK K
  (repeat refine ats_seq ?_); refine ats_no rfl trivial ?_
  refine ats_skip ?_
  refine gC fun K hK => ?_
  refine fcall_data (hD1) (by first | rfl | simp only [areData, Aw.isData, areData_bsV, Bool.and_true]) ?_; simp only [go_sem, seval]
  refine hK _ ?_; clear hK K
  refine gC fun K hK => ?_
  first | refine fcall_data (a1) rfl ?_ | refine YR_intro (acall_data (a1) rfl) ?_
  simp only [go_sem, seval]
  refine hK _ ?_; clear hK K
  refine gC fun K hK => ?_
  first | refine fcall_data (a2) rfl ?_ | refine YR_intro (acall_data (a2) rfl) ?_
  simp only [go_sem, seval]
  refine hK _ ?_; clear hK K
  (repeat refine ats_seq ?_); refine ats_go (fix0 hcx) fun K hK => ?_; simp only [go_sem, seval, decide_true, Bool.not_true]
  first | refine YR_intro (fun _ => acall_data (r1) rfl) ?_ | refine YR_intro (acall_data (r1) rfl) ?_
  simp only [go_sem, seval]
  refine hK _ ?_; clear hK K
  (repeat refine ats_seq ?_); refine ats_no rfl trivial ?_
  refine ats_skip ?_
  refine gB ?_
  (repeat refine ats_seq ?_)
  refine ats_upto ⟨[(0, .lv (bsV c)), (2, .bool false), (3, .l1 o)], []⟩ ?_ ?_
  ·refine gI (fun h1 => ?_) fun h1 => ?_
   ·obtain ⟨p1, p2⟩ := a3 h1
    refine gC fun K hK => ?_
    first | refine fcall_data (p1) rfl ?_ | refine YR_intro (acall_data (p1) rfl) ?_
    simp only [go_sem, seval]
    refine hK _ ?_; clear hK K
    refine gC fun K hK => ?_
    first | refine fcall_data (p2) rfl ?_ | refine YR_intro (acall_data (p2) rfl) ?_
    simp only [go_sem, seval]
    refine hK _ ?_; clear hK K
    refine gB ?_
    (repeat refine ats_seq ?_); refine ats_no rfl trivial ?_
    refine ats_skip ?_
    refine ats_nil ?_; refine Or.inl ⟨rfl, ghost_trans (ghost_drop [0, 1]) (ghost_can [] (by simp only [killL, killA, killAs, killAs_bsV, qOf, rmT, killH, killT, List.filter_cons, List.filter_nil, List.contains_cons, List.contains_nil, Bool.or_false, Bool.or_true, Bool.false_and, Bool.not_true, Bool.not_false, Bool.false_eq_true, if_true, if_false, rnLs, rnL, rn, rns, rns_bsV, sw, SlotsLe, St.get, slotGet, List.map_cons, List.map_nil, seval, AV.int.injEq, AV.bool.injEq, AV.l1.injEq, AV.l2.injEq, AV.l3.injEq, true_and, and_true]) (by simp only [killL, killA, killAs, killAs_bsV, qOf, rmT, killH, killT, List.filter_cons, List.filter_nil, List.contains_cons, List.contains_nil, Bool.or_false, Bool.or_true, Bool.false_and, Bool.not_true, Bool.not_false, Bool.false_eq_true, if_true, if_false, sortH, insH, rnHs, rnH, rnT, rn, rns, rns_bsV, sw, List.map_cons, List.map_nil, seval]))⟩
   ·refine ats_skip ?_
    refine ats_nil ?_; refine Or.inl ⟨rfl, ghost_trans (ghost_drop [0, 1]) (ghost_can [] (by simp only [killL, killA, killAs, killAs_bsV, qOf, rmT, killH, killT, List.filter_cons, List.filter_nil, List.contains_cons, List.contains_nil, Bool.or_false, Bool.or_true, Bool.false_and, Bool.not_true, Bool.not_false, Bool.false_eq_true, if_true, if_false, rnLs, rnL, rn, rns, rns_bsV, sw, SlotsLe, St.get, slotGet, List.map_cons, List.map_nil, seval, AV.int.injEq, AV.bool.injEq, AV.l1.injEq, AV.l2.injEq, AV.l3.injEq, true_and, and_true]) (by simp only [killL, killA, killAs, killAs_bsV, qOf, rmT, killH, killT, List.filter_cons, List.filter_nil, List.contains_cons, List.contains_nil, Bool.or_false, Bool.or_true, Bool.false_and, Bool.not_true, Bool.not_false, Bool.false_eq_true, if_true, if_false, sortH, insH, rnHs, rnH, rnT, rn, rns, rns_bsV, sw, List.map_cons, List.map_nil, seval]))⟩
  refine gC fun K hK => ?_
  first | refine fcall_data (b1) rfl ?_ | refine YR_intro (acall_data (b1) rfl) ?_
  simp only [go_sem, seval]
  refine hK _ ?_; clear hK K
  refine gC fun K hK => ?_
  first | refine fcall_data (b3) rfl ?_ | refine YR_intro (acall_data (b3) rfl) ?_
  simp only [go_sem, seval]
  refine hK _ ?_; clear hK K
  refine gC fun K hK => ?_
  first | refine fcall_data (b2) rfl ?_ | refine YR_intro (acall_data (b2) rfl) ?_
  simp only [go_sem, seval]
  refine hK _ ?_; clear hK K
  (repeat refine ats_seq ?_)
  refine ats_upto ⟨[(0, .lv (bsV c)), (2, .bool false), (132, .bool false)], []⟩ ?_ ?_
  ·by_cases h2 : c2 = 0
   ·subst h2
    rw [b4 rfl] at i2
    (repeat refine ats_seq ?_); refine ats_go (fix0 hcx) fun K hK => ?_; simp only [go_sem, seval, decide_true, Bool.not_true]
    first | refine YR_intro (fun _ => acall_data (r2) rfl) ?_ | refine YR_intro (acall_data (r2) rfl) ?_
    simp only [go_sem, seval]
    simp only [go_sem, seval, decide_true, Bool.not_true]
    first | refine YR_intro (fun _ => acall_data (r2) rfl) ?_ | refine YR_intro (acall_data (r2) rfl) ?_
    simp only [go_sem, seval]
    simp only [go_sem, seval, decide_true, Bool.not_true]
    first | refine YR_intro (fun _ => acall_data (i2) rfl) ?_ | refine YR_intro (acall_data (i2) rfl) ?_
    simp only [go_sem, seval]
    refine hK _ ?_; clear hK K
    refine ats_nil ?_; refine Or.inl ⟨rfl, ghost_trans (ghost_drop [0, 1, 2]) (ghost_can [] (by simp only [killL, killA, killAs, killAs_bsV, qOf, rmT, killH, killT, List.filter_cons, List.filter_nil, List.contains_cons, List.contains_nil, Bool.or_false, Bool.or_true, Bool.false_and, Bool.not_true, Bool.not_false, Bool.false_eq_true, if_true, if_false, rnLs, rnL, rn, rns, rns_bsV, sw, SlotsLe, St.get, slotGet, List.map_cons, List.map_nil, seval, AV.int.injEq, AV.bool.injEq, AV.l1.injEq, AV.l2.injEq, AV.l3.injEq, true_and, and_true]) (by simp only [killL, killA, killAs, killAs_bsV, qOf, rmT, killH, killT, List.filter_cons, List.filter_nil, List.contains_cons, List.contains_nil, Bool.or_false, Bool.or_true, Bool.false_and, Bool.not_true, Bool.not_false, Bool.false_eq_true, if_true, if_false, sortH, insH, rnHs, rnH, rnT, rn, rns, rns_bsV, sw, List.map_cons, List.map_nil, seval]))⟩
   ·have h2' := eq_false h2
    (repeat refine ats_seq ?_); refine ats_go (fix0 hcx) fun K hK => ?_; simp only [go_sem, seval, decide_true, Bool.not_true]
    first | refine YR_intro (fun _ => acall_data (r2) rfl) ?_ | refine YR_intro (acall_data (r2) rfl) ?_
    simp only [go_sem, seval]
    simp only [go_sem, seval, decide_true, Bool.not_true]
    first | refine YR_intro (fun _ => acall_data (r2) rfl) ?_ | refine YR_intro (acall_data (r2) rfl) ?_
    simp only [go_sem, seval]
    simp only [go_sem, seval, decide_true, Bool.not_true, h2', decide_false]
    refine YR_intro (v := .bool true) (by first | trivial | (intro h; cases h)) ?_
    simp only [go_sem, seval, decide_true, Bool.not_true, h2', decide_false]
    refine hK _ ?_; clear hK K
    refine ats_nil ?_; refine Or.inl ⟨rfl, ghost_trans (ghost_drop [0, 1, 2]) (ghost_can [] (by simp only [killL, killA, killAs, killAs_bsV, qOf, rmT, killH, killT, List.filter_cons, List.filter_nil, List.contains_cons, List.contains_nil, Bool.or_false, Bool.or_true, Bool.false_and, Bool.not_true, Bool.not_false, Bool.false_eq_true, if_true, if_false, rnLs, rnL, rn, rns, rns_bsV, sw, SlotsLe, St.get, slotGet, List.map_cons, List.map_nil, seval, AV.int.injEq, AV.bool.injEq, AV.l1.injEq, AV.l2.injEq, AV.l3.injEq, true_and, and_true]) (by simp only [killL, killA, killAs, killAs_bsV, qOf, rmT, killH, killT, List.filter_cons, List.filter_nil, List.contains_cons, List.contains_nil, Bool.or_false, Bool.or_true, Bool.false_and, Bool.not_true, Bool.not_false, Bool.false_eq_true, if_true, if_false, sortH, insH, rnHs, rnH, rnT, rn, rns, rns_bsV, sw, List.map_cons, List.map_nil, seval]))⟩
  (repeat refine ats_seq ?_); refine ats_no rfl trivial ?_
  refine ats_skip ?_
  refine gC fun K hK => ?_
  refine fcall_data (hD2) (by first | rfl | simp only [areData, Aw.isData, areData_bsV, Bool.and_true]) ?_; simp only [go_sem, seval]
  refine hK _ ?_; clear hK K
  refine gC fun K hK => ?_
  first | refine fcall_data (d1) rfl ?_ | refine YR_intro (acall_data (d1) rfl) ?_
  simp only [go_sem, seval]
  refine hK _ ?_; clear hK K
  refine gC fun K hK => ?_
  first | refine fcall_data (d2) rfl ?_ | refine YR_intro (acall_data (d2) rfl) ?_
  simp only [go_sem, seval]
  refine hK _ ?_; clear hK K
  (repeat refine ats_seq ?_)
  refine ats_upto ⟨[(0, .lv (bsV c)), (2, .bool false), (167, .bool false)], []⟩ ?_ ?_
  ·by_cases h2 : c3 = 0
   ·subst h2
    rw [d4 rfl] at i3
    (repeat refine ats_seq ?_); refine ats_go (fix0 hcx) fun K hK => ?_; simp only [go_sem, seval, decide_true, Bool.not_true]
    first | refine YR_intro (fun _ => acall_data (r3) rfl) ?_ | refine YR_intro (acall_data (r3) rfl) ?_
    simp only [go_sem, seval]
    simp only [go_sem, seval, decide_true, Bool.not_true]
    first | refine YR_intro (fun _ => acall_data (i3) rfl) ?_ | refine YR_intro (acall_data (i3) rfl) ?_
    simp only [go_sem, seval]
    refine hK _ ?_; clear hK K
    refine ats_nil ?_; refine Or.inl ⟨rfl, ghost_trans (ghost_drop [0, 1]) (ghost_can [] (by simp only [killL, killA, killAs, killAs_bsV, qOf, rmT, killH, killT, List.filter_cons, List.filter_nil, List.contains_cons, List.contains_nil, Bool.or_false, Bool.or_true, Bool.false_and, Bool.not_true, Bool.not_false, Bool.false_eq_true, if_true, if_false, rnLs, rnL, rn, rns, rns_bsV, sw, SlotsLe, St.get, slotGet, List.map_cons, List.map_nil, seval, AV.int.injEq, AV.bool.injEq, AV.l1.injEq, AV.l2.injEq, AV.l3.injEq, true_and, and_true]) (by simp only [killL, killA, killAs, killAs_bsV, qOf, rmT, killH, killT, List.filter_cons, List.filter_nil, List.contains_cons, List.contains_nil, Bool.or_false, Bool.or_true, Bool.false_and, Bool.not_true, Bool.not_false, Bool.false_eq_true, if_true, if_false, sortH, insH, rnHs, rnH, rnT, rn, rns, rns_bsV, sw, List.map_cons, List.map_nil, seval]))⟩
   ·have h2' := eq_false h2
    (repeat refine ats_seq ?_); refine ats_go (fix0 hcx) fun K hK => ?_; simp only [go_sem, seval, decide_true, Bool.not_true]
    first | refine YR_intro (fun _ => acall_data (r3) rfl) ?_ | refine YR_intro (acall_data (r3) rfl) ?_
    simp only [go_sem, seval]
    simp only [go_sem, seval, decide_true, Bool.not_true, h2', decide_false]
    refine YR_intro (v := .bool true) (by first | trivial | (intro h; cases h)) ?_
    simp only [go_sem, seval, decide_true, Bool.not_true, h2', decide_false]
    refine hK _ ?_; clear hK K
    refine ats_nil ?_; refine Or.inl ⟨rfl, ghost_trans (ghost_drop [0, 1]) (ghost_can [] (by simp only [killL, killA, killAs, killAs_bsV, qOf, rmT, killH, killT, List.filter_cons, List.filter_nil, List.contains_cons, List.contains_nil, Bool.or_false, Bool.or_true, Bool.false_and, Bool.not_true, Bool.not_false, Bool.false_eq_true, if_true, if_false, rnLs, rnL, rn, rns, rns_bsV, sw, SlotsLe, St.get, slotGet, List.map_cons, List.map_nil, seval, AV.int.injEq, AV.bool.injEq, AV.l1.injEq, AV.l2.injEq, AV.l3.injEq, true_and, and_true]) (by simp only [killL, killA, killAs, killAs_bsV, qOf, rmT, killH, killT, List.filter_cons, List.filter_nil, List.contains_cons, List.contains_nil, Bool.or_false, Bool.or_true, Bool.false_and, Bool.not_true, Bool.not_false, Bool.false_eq_true, if_true, if_false, sortH, insH, rnHs, rnH, rnT, rn, rns, rns_bsV, sw, List.map_cons, List.map_nil, seval]))⟩
  (repeat refine ats_seq ?_); refine ats_no rfl trivial ?_
  refine ats_skip ?_
  refine gC fun K hK => ?_
  refine fcall_data (hD3) (by first | rfl | simp only [areData, Aw.isData, areData_bsV, Bool.and_true]) ?_; simp only [go_sem, seval]
  refine hK _ ?_; clear hK K
  refine gC fun K hK => ?_
  first | refine fcall_data (e1) rfl ?_ | refine YR_intro (acall_data (e1) rfl) ?_
  simp only [go_sem, seval]
  refine hK _ ?_; clear hK K
  refine gC fun K hK => ?_
  first | refine fcall_data (e2) rfl ?_ | refine YR_intro (acall_data (e2) rfl) ?_
  simp only [go_sem, seval]
  refine hK _ ?_; clear hK K
  (repeat refine ats_seq ?_); refine ats_go (fix0 hcx) fun K hK => ?_; simp only [go_sem, seval, decide_true, Bool.not_true]
  first | refine YR_intro (fun _ => acall_data (r4) rfl) ?_ | refine YR_intro (acall_data (r4) rfl) ?_
  simp only [go_sem, seval]
  refine hK _ ?_; clear hK K
  (repeat refine ats_seq ?_); refine ats_no rfl trivial ?_
  refine ats_skip ?_
  refine gB ?_
  (repeat refine ats_seq ?_)
  refine ats_upto ⟨[(0, .lv (bsV c)), (2, .bool false)], []⟩ ?_ ?_
  ·refine gI (fun h1 => ?_) fun h1 => ?_
   ·obtain ⟨p1, p2⟩ := e3 h1
    rw [p2] at i4
    refine gC fun K hK => ?_
    first | refine fcall_data (p1) rfl ?_ | refine YR_intro (acall_data (p1) rfl) ?_
    simp only [go_sem, seval]
    refine hK _ ?_; clear hK K
    (repeat refine ats_seq ?_); refine ats_go (fix0 hcx) fun K hK => ?_; simp only [go_sem, seval, decide_true, Bool.not_true]
    (repeat refine aI (hb := ?_))
    first | refine YR_intro (fun _ => acall_data (i4) rfl) ?_ | refine YR_intro (acall_data (i4) rfl) ?_
    simp only [go_sem, seval]
    refine hK _ ?_; clear hK K
    (repeat refine ats_seq ?_); refine ats_no rfl trivial ?_
    refine ats_skip ?_
    refine ats_nil ?_; refine Or.inl ⟨rfl, ghost_trans (ghost_drop [0, 1]) (ghost_can [] (by simp only [killL, killA, killAs, killAs_bsV, qOf, rmT, killH, killT, List.filter_cons, List.filter_nil, List.contains_cons, List.contains_nil, Bool.or_false, Bool.or_true, Bool.false_and, Bool.not_true, Bool.not_false, Bool.false_eq_true, if_true, if_false, rnLs, rnL, rn, rns, rns_bsV, sw, SlotsLe, St.get, slotGet, List.map_cons, List.map_nil, seval, AV.int.injEq, AV.bool.injEq, AV.l1.injEq, AV.l2.injEq, AV.l3.injEq, true_and, and_true]) (by simp only [killL, killA, killAs, killAs_bsV, qOf, rmT, killH, killT, List.filter_cons, List.filter_nil, List.contains_cons, List.contains_nil, Bool.or_false, Bool.or_true, Bool.false_and, Bool.not_true, Bool.not_false, Bool.false_eq_true, if_true, if_false, sortH, insH, rnHs, rnH, rnT, rn, rns, rns_bsV, sw, List.map_cons, List.map_nil, seval]))⟩
   ·refine ats_skip ?_
    refine ats_nil ?_; refine Or.inl ⟨rfl, ghost_trans (ghost_drop [0, 1]) (ghost_can [] (by simp only [killL, killA, killAs, killAs_bsV, qOf, rmT, killH, killT, List.filter_cons, List.filter_nil, List.contains_cons, List.contains_nil, Bool.or_false, Bool.or_true, Bool.false_and, Bool.not_true, Bool.not_false, Bool.false_eq_true, if_true, if_false, rnLs, rnL, rn, rns, rns_bsV, sw, SlotsLe, St.get, slotGet, List.map_cons, List.map_nil, seval, AV.int.injEq, AV.bool.injEq, AV.l1.injEq, AV.l2.injEq, AV.l3.injEq, true_and, and_true]) (by simp only [killL, killA, killAs, killAs_bsV, qOf, rmT, killH, killT, List.filter_cons, List.filter_nil, List.contains_cons, List.contains_nil, Bool.or_false, Bool.or_true, Bool.false_and, Bool.not_true, Bool.not_false, Bool.false_eq_true, if_true, if_false, sortH, insH, rnHs, rnH, rnT, rn, rns, rns_bsV, sw, List.map_cons, List.map_nil, seval]))⟩
  refine gC fun K hK => ?_
  refine fcall_data (hD4) (by first | rfl | simp only [areData, Aw.isData, areData_bsV, Bool.and_true]) ?_; simp only [go_sem, seval]
  refine hK _ ?_; clear hK K
  by_cases hm : 1 ≤ m ∧ m ≤ 8
  ·obtain ⟨p1, p2⟩ := f3 hm
   rw [if_pos hm, if_pos hm] at f1 f2
   generalize dhgT m.toNat = T5 at *
   have r5 := ring9_ok T5 T5
   rw [decide_eq_true rfl] at r5
   refine gC fun K hK => ?_
   first | refine fcall_data (f1) rfl ?_ | refine YR_intro (acall_data (f1) rfl) ?_
   simp only [go_sem, seval]
   refine hK _ ?_; clear hK K
   refine gC fun K hK => ?_
   first | refine fcall_data (f2) rfl ?_ | refine YR_intro (acall_data (f2) rfl) ?_
   simp only [go_sem, seval]
   refine hK _ ?_; clear hK K
   refine gC fun K hK => ?_
   first | refine YR_intro (fun _ => acall_data (r5) rfl) ?_ | refine YR_intro (acall_data (r5) rfl) ?_
   simp only [go_sem, seval]
   refine hK _ ?_; clear hK K
   (repeat refine ats_seq ?_); refine ats_no rfl trivial ?_
   refine ats_skip ?_
   refine gB ?_
   (repeat refine ats_seq ?_); refine ats_no rfl trivial ?_
   refine ats_skip ?_
   refine gC fun K hK => ?_
   first | refine fcall_data (p1) rfl ?_ | refine YR_intro (acall_data (p1) rfl) ?_
   simp only [go_sem, seval]
   refine hK _ ?_; clear hK K
   refine gC fun K hK => ?_
   first | refine fcall_data (p2) rfl ?_ | refine YR_intro (acall_data (p2) rfl) ?_
   simp only [go_sem, seval]
   refine hK _ ?_; clear hK K
   (repeat refine ats_seq ?_); refine ats_go (fix0 hcx) fun K hK => ?_; simp only [go_sem, seval, decide_true, Bool.not_true]
   (repeat refine aI (hb := ?_))
   refine hK _ ?_; clear hK K
   refine ats_ret (finB rfl ?_)
   simp
  ·rw [if_neg hm, if_neg hm] at f1 f2
   have r5 := ring9_ok [] []
   rw [decide_eq_true rfl] at r5
   refine gC fun K hK => ?_
   first | refine fcall_data (f1) rfl ?_ | refine YR_intro (acall_data (f1) rfl) ?_
   simp only [go_sem, seval]
   refine hK _ ?_; clear hK K
   refine gC fun K hK => ?_
   first | refine fcall_data (f2) rfl ?_ | refine YR_intro (acall_data (f2) rfl) ?_
   simp only [go_sem, seval]
   refine hK _ ?_; clear hK K
   refine gC fun K hK => ?_
   first | refine YR_intro (fun _ => acall_data (r5) rfl) ?_ | refine YR_intro (acall_data (r5) rfl) ?_
   simp only [go_sem, seval]
   refine hK _ ?_; clear hK K
   (repeat refine ats_seq ?_); refine ats_no rfl trivial ?_
   refine ats_skip ?_
   refine gB ?_
   (repeat refine ats_seq ?_); refine ats_yes rfl trivial ?_
   refine gB ?_
   refine ats_ret (finB rfl ?_)
   rfl
end Go.Proofs.Ytmjcbgpbhlheoaa
