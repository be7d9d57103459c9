import Derived.Test.YtjcfefgbieeheaaRz1
import Derived.Test.YtjcfefgbieeheaaJz3
import Derived.Test.YtjcfefgbieeheaaMq
set_option linter.unusedSimpArgs false
set_option linter.unusedVariables false
namespace Go.Proofs.Ytjcfefgbieeheaa
open Go Go.Aw Go.Pl
theorem pureLi {P : Program} {f : FuncId} {ds : List AV} {u : Option (List Int)} {c : Int} (h : PureCall P f ds (.tup [optA u, .int c])) : PureCall P f ds (.tup [.l1 (u.getD []), .int c]) := by
 cases u with
 | none => exact pure_le h (avLe_tup (avsLe_cons avLe_nil1 (avsLe_rfl _)))
 | some u => exact h
theorem dot_small {t : Cu} (h : RingP t) (hD : DimP t (dnL t)) (h8 : t.length ≤ 8) {x : List Int} (hx : VecX t.length 4 x) : 0 ≤ dot (dnL t) x ∧ dot (dnL t) x ≤ 512000 := by
 have hs := dn_small h hD
 unfold dot
 rw [hx.1]
 have := sumTo_le (f := dotG x (dnL t)) (B := 64000) (n := t.length) fun y hy => by
  have h1 := hs y hy
  have h2 := hx.2 y hy
  unfold dotG
  refine ⟨Int.mul_nonneg h2.1 (by omega), ?_⟩
  have : x.getD y 0 * (dnL t).getD y 0 ≤ 4 * 16000 := Int.mul_le_mul h2.2 h1.2 (by omega) (by decide)
  omega
 omega
set_option maxRecDepth 100000 in
set_option maxHeartbeats 8000000 in
theorem fnIntegerDimensions_ok (c : List Int) (hb : ByteOk c) : PureCall Try.prog 3 [.lv (bsV c)] (.bool true) := by
 have hbig := big_ok c
 by_cases h4 : 4096 < c.length
 ·rw [decide_eq_true h4] at hbig
  refine PureCall.introR (n := 226) (rs := [.tmp 2]) Try.call3 Try.func3 rfl rfl rfl (by simp only [List.length_cons, List.length_nil]; omega) (fun cx hcx hrd => ats_of ?_); simp only [argSlots, Nat.zero_add, Nat.reduceAdd]
  refine gB ?_
  refine gC fun K hK => ?_
  refine fcall_data (hbig) (by first | rfl | simp only [areData, Aw.isData, areData_bsV, Bool.and_true]) ?_; simp only [go_sem, seval]
  refine hK _ ?_; clear hK K
  (repeat refine ats_seq ?_); refine ats_yes rfl trivial ?_
  refine gB ?_
  refine ats_ret (finB rfl ?_)
  rfl
 have hc : CodeOk c := ⟨by omega, hb⟩
 rw [decide_eq_false h4] at hbig
 obtain ⟨t0, x0, lt0, hD0⟩ := DrawIsDimension_ok c hc
 obtain ⟨t, lt, hD⟩ := DrawIntegerDimensions_ok c hc
 have k1 := implIsd_ok t0 x0
 have k2 := specIsd_ok t0 x0
 generalize isdR t0 x0 = r0 at *
 obtain ⟨rb, rc⟩ := r0
 have k3 := freshLq (implId_ok t)
 have k4 := pureLi (specId_ok t)
 have k5 := implWd_ok t
 have k6 := implIr_ok t
 have li := likeInts_ok ((idR t).1.getD []) ((idR t).1.getD [])
 rw [decide_eq_true rfl] at li
 refine PureCall.introR (n := 226) (rs := [.tmp 2]) Try.call3 Try.func3 rfl rfl rfl (by simp only [List.length_cons, List.length_nil]; omega) (fun cx hcx hrd => ats_of ?_); simp only [argSlots, Nat.zero_add, Nat.reduceAdd]
 refine gB ?_
 refine gC fun K hK => ?_
 refine fcall_data (hbig) (by first | rfl | simp only [areData, Aw.isData, areData_bsV, Bool.and_true]) ?_; simp only [go_sem, seval]
 refine hK _ ?_; clear hK K
 (repeat refine ats_seq ?_); refine ats_no rfl trivial ?_
 refine ats_skip ?_
 refine gC fun K hK => ?_
 refine fcall_data (hD0) (by first | rfl | simp only [areData, Aw.isData, areData_bsV, Bool.and_true]) ?_; simp only [go_sem, seval]
 refine hK _ ?_; clear hK K
 (repeat refine ats_seq ?_); refine AT.ghost (st' := ⟨[(0, .lv (bsV c)), (2, .bool false), (3, .bptr 5 0), (4, .l1 x0)], [(5, .bx [.l3 t0])]⟩) (ghost_trans (ghost_drop []) (ghost_can [(0, 5)] (by simp only [killL, killA, killAs, killT_srcB, killAs_bsV, qOf, rmT, killH, killT_e, List.filter_cons, List.filter_nil, List.contains_cons, List.contains_nil, Bool.or_false, Bool.or_true, Bool.false_and, Bool.not_true, Bool.not_false, Bool.false_eq_true, if_true, if_false, rnLs, rnL, rn, rns, rns_bsV, sw, SlotsLe, St.get, slotGet, List.map_cons, List.map_nil, seval, AV.int.injEq, AV.bool.injEq, AV.l1.injEq, AV.l2.injEq, AV.l3.injEq, true_and, and_true]) (by simp only [killL, killA, killAs, killT_srcB, killAs_bsV, qOf, rmT, killH, killT_e, List.filter_cons, List.filter_nil, List.contains_cons, List.contains_nil, Bool.or_false, Bool.or_true, Bool.false_and, Bool.not_true, Bool.not_false, Bool.false_eq_true, if_true, if_false, sortH, insH, rnHs, rnH, rnT_e, rnT_srcB, rn, rns, rns_bsV, sw, List.map_cons, List.map_nil, seval]))) ?_
 refine gC fun K hK => ?_
 first | refine fcall_data (k1) rfl ?_ | refine YR_intro (acall_data (k1) rfl) ?_
 simp only [go_sem, seval]
 refine hK _ ?_; clear hK K
 refine gC fun K hK => ?_
 first | refine fcall_data (k2) rfl ?_ | refine YR_intro (acall_data (k2) rfl) ?_
 simp only [go_sem, seval]
 refine hK _ ?_; clear hK K
 refine gC fun K hK => ?_
 (repeat refine aI (hb := ?_))
 refine hK _ ?_; clear hK K
 refine gI (fun h1 => ?_) fun h1 => ?_
 ·simp at h1
 clear h1
 refine ats_skip ?_
 (repeat refine ats_seq ?_); refine AT.ghost (st' := ⟨[(0, .lv (bsV c)), (2, .bool false)], []⟩) (ghost_trans (ghost_drop [5]) (ghost_can [] (by simp only [killL, killA, killAs, killT_srcB, killAs_bsV, qOf, rmT, killH, killT_e, List.filter_cons, List.filter_nil, List.contains_cons, List.contains_nil, Bool.or_false, Bool.or_true, Bool.false_and, Bool.not_true, Bool.not_false, Bool.false_eq_true, if_true, if_false, rnLs, rnL, rn, rns, rns_bsV, sw, SlotsLe, St.get, slotGet, List.map_cons, List.map_nil, seval, AV.int.injEq, AV.bool.injEq, AV.l1.injEq, AV.l2.injEq, AV.l3.injEq, true_and, and_true]) (by simp only [killL, killA, killAs, killT_srcB, killAs_bsV, qOf, rmT, killH, killT_e, List.filter_cons, List.filter_nil, List.contains_cons, List.contains_nil, Bool.or_false, Bool.or_true, Bool.false_and, Bool.not_true, Bool.not_false, Bool.false_eq_true, if_true, if_false, sortH, insH, rnHs, rnH, rnT_e, rnT_srcB, rn, rns, rns_bsV, sw, List.map_cons, List.map_nil, seval]))) ?_
 refine gC fun K hK => ?_
 refine fcall_data (hD) (by first | rfl | simp only [areData, Aw.isData, areData_bsV, Bool.and_true]) ?_; simp only [go_sem, seval]
 refine hK _ ?_; clear hK K
 (repeat refine ats_seq ?_); refine AT.ghost (st' := ⟨[(0, .lv (bsV c)), (2, .bool false), (9, .bptr 5 0)], [(5, .bx [.l3 t])]⟩) (ghost_trans (ghost_drop []) (ghost_can [(0, 5)] (by simp only [killL, killA, killAs, killT_srcB, killAs_bsV, qOf, rmT, killH, killT_e, List.filter_cons, List.filter_nil, List.contains_cons, List.contains_nil, Bool.or_false, Bool.or_true, Bool.false_and, Bool.not_true, Bool.not_false, Bool.false_eq_true, if_true, if_false, rnLs, rnL, rn, rns, rns_bsV, sw, SlotsLe, St.get, slotGet, List.map_cons, List.map_nil, seval, AV.int.injEq, AV.bool.injEq, AV.l1.injEq, AV.l2.injEq, AV.l3.injEq, true_and, and_true]) (by simp only [killL, killA, killAs, killT_srcB, killAs_bsV, qOf, rmT, killH, killT_e, List.filter_cons, List.filter_nil, List.contains_cons, List.contains_nil, Bool.or_false, Bool.or_true, Bool.false_and, Bool.not_true, Bool.not_false, Bool.false_eq_true, if_true, if_false, sortH, insH, rnHs, rnH, rnT_e, rnT_srcB, rn, rns, rns_bsV, sw, List.map_cons, List.map_nil, seval]))) ?_
 cases hr : isRing t with
 | false =>
  have e : idR t = (none, 1) := by unfold idR; rw [hr]; rfl
  rw [e] at k3 k4 k5 li
  rw [hr] at k6
  have k5 : PureCall Try.prog 14 [.agg [.l3 t]] (.tup [.int 0, .int 1]) := k5
  have k6 : PureCall Try.prog 15 [.agg [.l3 t]] (.tup [.bool false, .int 1]) := k6
  have k3 : FreshCall Try.prog 11 [.agg [.l3 t]] (.tup [.l1 [], .int 1]) := k3
  have k4 : PureCall Try.prog 12 [.agg [.l3 t]] (.tup [.l1 [], .int 1]) := k4
  have li : PureCall Try.prog 13 [.l1 [], .l1 []] (.bool true) := li
  refine gC fun K hK => ?_
  first | refine fcall_fresh rfl (k3) ?_ | refine YR_intro (acall_fresh rfl (k3)) ?_
  simp only [go_sem, seval]
  refine hK _ ?_; clear hK K
  refine gC fun K hK => ?_
  first | refine fcall_data (k4) rfl ?_ | refine YR_intro (acall_data (k4) rfl) ?_
  simp only [go_sem, seval]
  refine hK _ ?_; clear hK K
  refine gC fun K hK => ?_
  first | refine YR_intro (fun _ => acall_free rfl rfl (li)) ?_ | refine YR_intro (acall_free rfl rfl (li)) ?_
  simp only [go_sem, seval]
  refine hK _ ?_; clear hK K
  refine gI (fun h2 => ?_) fun h2 => ?_
  ·simp at h2
  clear h2
  refine ats_skip ?_
  refine gC fun K hK => ?_
  first | refine fcall_data (k5) rfl ?_ | refine YR_intro (acall_data (k5) rfl) ?_
  simp only [go_sem, seval]
  refine hK _ ?_; clear hK K
  refine gC fun K hK => ?_
  first | refine fcall_data (k6) rfl ?_ | refine YR_intro (acall_data (k6) rfl) ?_
  simp only [go_sem, seval]
  refine hK _ ?_; clear hK K
  refine gB ?_
  (repeat refine ats_seq ?_); refine ats_yes rfl trivial ?_
  refine gB ?_
  refine ats_ret (finB rfl ?_)
  rfl
 | true =>
  have h := isRing_P hr
  have h1n := h.pos
  cases hbd : bd (DimP t (dnL t)) with
  | false =>
   have e : idR t = (none, 4) := by unfold idR; rw [hr, hbd]; rfl
   rw [e] at k3 k4 k5 li
   rw [hr, hbd] at k6
   have k5 : PureCall Try.prog 14 [.agg [.l3 t]] (.tup [.int 0, .int 4]) := k5
   have k6 : PureCall Try.prog 15 [.agg [.l3 t]] (.tup [.bool false, .int 0]) := k6
   have k3 : FreshCall Try.prog 11 [.agg [.l3 t]] (.tup [.l1 [], .int 4]) := k3
   have k4 : PureCall Try.prog 12 [.agg [.l3 t]] (.tup [.l1 [], .int 4]) := k4
   have li : PureCall Try.prog 13 [.l1 [], .l1 []] (.bool true) := li
   refine gC fun K hK => ?_
   first | refine fcall_fresh rfl (k3) ?_ | refine YR_intro (acall_fresh rfl (k3)) ?_
   simp only [go_sem, seval]
   refine hK _ ?_; clear hK K
   refine gC fun K hK => ?_
   first | refine fcall_data (k4) rfl ?_ | refine YR_intro (acall_data (k4) rfl) ?_
   simp only [go_sem, seval]
   refine hK _ ?_; clear hK K
   refine gC fun K hK => ?_
   first | refine YR_intro (fun _ => acall_free rfl rfl (li)) ?_ | refine YR_intro (acall_free rfl rfl (li)) ?_
   simp only [go_sem, seval]
   refine hK _ ?_; clear hK K
   refine gI (fun h2 => ?_) fun h2 => ?_
   ·simp at h2
   clear h2
   refine ats_skip ?_
   refine gC fun K hK => ?_
   first | refine fcall_data (k5) rfl ?_ | refine YR_intro (acall_data (k5) rfl) ?_
   simp only [go_sem, seval]
   refine hK _ ?_; clear hK K
   refine gC fun K hK => ?_
   first | refine fcall_data (k6) rfl ?_ | refine YR_intro (acall_data (k6) rfl) ?_
   simp only [go_sem, seval]
   refine hK _ ?_; clear hK K
   refine gB ?_
   (repeat refine ats_seq ?_); refine ats_yes rfl trivial ?_
   refine gB ?_
   refine ats_ret (finB rfl ?_)
   rfl
  | true =>
   have e : idR t = (some (dnL t), 0) := by unfold idR; rw [hr, hbd]; rfl
   rw [e] at k3 k4 k5 li
   rw [hr, hbd] at k6
   have hDP := bd_iff.1 hbd
   have hs := dn_small h hDP
   have lD := (dnL_bd h).1
   have hun := hDP.toF.unit h
   have hDx : VecX t.length 1000000 (dnL t) := ⟨lD, fun j hj => by have := hs j hj; omega⟩
   have k7 := implIsd_ok t (dnL t)
   have e7 : isdR t (dnL t) = (true, 0) := by unfold isdR; rw [hr, bd_true hDx, hbd]; rfl
   rw [e7] at k7
   have hS := roll_ok c hc 4005
   have ok0 := rlS_ok (seed := 4005) hc
   generalize rlS c 4005 = s0 at *
   have hV1 := vector9_ok s0 ok0 t.length (by omega)
   have f1 := v9L_fact t.length [] s0 ok0 (fun x hx => by cases hx)
   generalize v9L t.length [] s0 = a at *
   have hV2 := vector9_ok a.2 f1.1 t.length (by omega)
   have f2 := v9L_fact t.length [] a.2 f1.1 (fun x hx => by cases hx)
   generalize v9L t.length [] a.2 = b at *
   have vx : ∀ {x : List Int}, x.length = ([] : List Int).length + t.length → (∀ z ∈ x, 0 ≤ z ∧ z ≤ 4) → VecX t.length 4 x := fun {x} hl h => ⟨by simpa using hl, fun i hi => h _ (getD_mem (by simp at hl; omega))⟩
   have va := vx f1.2.1 f1.2.2
   have vb := vx f2.2.1 f2.2.2
   have up : ∀ {x : List Int}, VecX t.length 4 x → VecX t.length 1000000 x := fun h => ⟨h.1, fun i hi => ⟨(h.2 i hi).1, Int.le_trans (h.2 i hi).2 (by decide)⟩⟩
   have vp := prod8 h lt va vb
   have m1 := freshLq (implMv_ok t a.1 b.1)
   have em : mvR t a.1 b.1 = (some (prodL t a.1 b.1), 0) := by unfold mvR; rw [hr, bd_true ⟨up va, up vb⟩]; rfl
   rw [em] at m1
   have q1 := implDv_ok t hr hDP a.1 (up va)
   have q2 := implDv_ok t hr hDP b.1 (up vb)
   have q3 := implDv_ok t hr hDP (prodL t a.1 b.1) vp
   have ep := dim_prod hDP va.1 vb.1
   have ba := dot_small h hDP lt va
   have bb := dot_small h hDP lt vb
   generalize prodL t a.1 b.1 = p at *
   generalize dnL t = D at *
   generalize dot D a.1 = u at *
   generalize dot D b.1 = v at *
   generalize dot D p = w at *
   subst ep
   have huv : 0 ≤ u * v ∧ u * v ≤ 262144000000 := by
    refine ⟨Int.mul_nonneg ba.1 bb.1, ?_⟩
    have : u * v ≤ 512000 * 512000 := Int.mul_le_mul ba.2 bb.2 bb.1 (by decide)
    omega
   have hun : D.getD 0 0 = 1 := hun
   have k3 : FreshCall Try.prog 11 [.agg [.l3 t]] (.tup [.l1 D, .int 0]) := k3
   have k4 : PureCall Try.prog 12 [.agg [.l3 t]] (.tup [.l1 D, .int 0]) := k4
   have k5 : PureCall Try.prog 14 [.agg [.l3 t]] (.tup [.int (dot D D), .int 0]) := k5
   have k6 : PureCall Try.prog 15 [.agg [.l3 t]] (.tup [.bool true, .int 0]) := k6
   have k7 : PureCall Try.prog 8 [.agg [.l3 t], .l1 D] (.tup [.bool true, .int 0]) := k7
   have li : PureCall Try.prog 13 [.l1 D, .l1 D] (.bool true) := li
   have m1 : FreshCall Try.prog 18 [.agg [.l3 t], .l1 a.1, .l1 b.1] (.tup [.l1 p, .int 0]) := m1
   refine gC fun K hK => ?_
   first | refine fcall_fresh rfl (k3) ?_ | refine YR_intro (acall_fresh rfl (k3)) ?_
   simp only [go_sem, seval]
   refine hK _ ?_; clear hK K
   refine gC fun K hK => ?_
   first | refine fcall_data (k4) rfl ?_ | refine YR_intro (acall_data (k4) rfl) ?_
   simp only [go_sem, seval]
   refine hK _ ?_; clear hK K
   refine gC fun K hK => ?_
   first | refine YR_intro (fun _ => acall_free rfl rfl (li)) ?_ | refine YR_intro (acall_free rfl rfl (li)) ?_
   simp only [go_sem, seval]
   refine hK _ ?_; clear hK K
   refine gI (fun h2 => ?_) fun h2 => ?_
   ·simp at h2
   clear h2
   refine ats_skip ?_
   refine gC fun K hK => ?_
   first | refine fcall_data (k5) rfl ?_ | refine YR_intro (acall_data (k5) rfl) ?_
   simp only [go_sem, seval]
   refine hK _ ?_; clear hK K
   refine gC fun K hK => ?_
   first | refine fcall_data (k6) rfl ?_ | refine YR_intro (acall_data (k6) rfl) ?_
   simp only [go_sem, seval]
   refine hK _ ?_; clear hK K
   refine gB ?_
   (repeat refine ats_seq ?_); refine ats_no rfl trivial ?_
   refine ats_skip ?_
   refine gC fun K hK => ?_
   first | refine fcall_data (k7) rfl ?_ | refine YR_intro (acall_data (k7) rfl) ?_
   simp only [go_sem, seval]
   refine hK _ ?_; clear hK K
   refine gB ?_
   refine gB ?_
   (repeat refine ats_seq ?_); refine AT.ghost (st' := ⟨[(0, .lv (bsV c)), (2, .bool false), (9, .bptr 5 0), (10, .l1 D), (14, .int (dot D D)), (15, .int 0), (16, .bool true), (17, .int 0), (18, .bool true), (19, .int 0), (20, .int 0), (21, .int 0)], [(5, .bx [.l3 t])]⟩) (ghost_can [] (by simp only [rnLs, rnL, rn, rns, rns_bsV, sw, SlotsLe, St.get, slotGet, List.map_cons, List.map_nil, seval, AV.int.injEq, AV.bool.injEq, AV.l1.injEq, AV.l2.injEq, AV.l3.injEq, true_and, and_true]) (by simp only [sortH, insH, rnHs, rnH, rnT_e, rnT_srcB, rn, rns, rns_bsV, sw, List.map_cons, List.map_nil, seval])) ?_
   (repeat refine ats_seq ?_); refine ats_loop (fun i : Nat => ⟨[(0, .lv (bsV c)), (2, .bool false), (9, .bptr 5 0), (10, .l1 D), (14, .int (dot D D)), (15, .int 0), (16, .bool true), (17, .int 0), (18, .bool true), (19, .int 0), (20, .int (sumTo (dotG D D) i)), (21, .int i)], [(5, .bx [.l3 t])]⟩) (fun i => i ≤ t.length) (fun i => t.length - i) 0 (Nat.zero_le _) (by
    refine And.intro ?_ rfl; simp only [leS, Nat.reduceEqDiff, ↓reduceIte, true_and, and_true]
    first | done | rfl | exact ⟨rfl, rfl⟩) (fun i hi => ?_)
   refine gB ?_
   refine gI (fun hl => ?_) fun hl => ?_
   ·have hin : i < t.length := by omega
    have hsq : ∀ y, y < t.length → 0 ≤ dotG D D y ∧ dotG D D y ≤ 256000000 := fun y hy => by
     have h1 := hs y hy
     unfold dotG
     refine ⟨Int.mul_nonneg (by omega) (by omega), ?_⟩
     have : D.getD y 0 * D.getD y 0 ≤ 16000 * 16000 := Int.mul_le_mul h1.2 h1.2 (by omega) (by decide)
     omega
    have b1 := sumTo_le (n := i) fun y hy => hsq y (by omega)
    have b2 : 0 ≤ D.getD i 0 * D.getD i 0 ∧ D.getD i 0 * D.getD i 0 ≤ 256000000 := hsq i hin
    have es : sumTo (dotG D D) i + D.getD i 0 * D.getD i 0 = sumTo (dotG D D) (i + 1) := rfl
    refine ats_skip ?_
    (repeat refine ats_seq ?_); refine ats_block ?_
    (repeat refine ats_seq ?_); refine ats_pick (fix0 hcx) mixed (by kernel_rfl) fun K hK => ?_; simp only [go_sem, seval]
    (repeat refine aI (hb := ?_))
    refine hK _ ?_; clear hK K
    refine gB ?_
    refine ⟨i + 1,  by omega, by omega, .inl ⟨by simp only [leS, Nat.reduceEqDiff, ↓reduceIte, true_and, and_true]; (exact ⟨es, by omega⟩),  rfl⟩⟩
   ·obtain rfl : i = t.length := by omega
    have ed : sumTo (dotG D D) t.length = dot D D := by unfold dot; rw [lD]
    rw [ed]
    refine ats_exit (lq_x ?_)
    refine gC fun K hK => ?_
    simp only [hun, Int.toNat_zero]
    (repeat refine aI (hb := ?_))
    refine hK _ ?_; clear hK K
    refine gI (fun h3 => ?_) fun h3 => ?_
    ·simp at h3
    clear h3
    refine ats_skip ?_
    refine gC fun K hK => ?_
    refine fcall_box (hS) (by simp [Aw.ids]) (by simp [find]) (by simp [closedT, killT_e, killAs, killA, outQ, Aw.ids]) (by simp [killAs, killA, outQ, Aw.ids]) (by simp [Aw.ids]) ?_; simp only [Aw.ids, List.map_cons, List.map_nil, List.filter_cons, List.filter_nil, List.contains_cons, List.contains_nil, Bool.or_false, Bool.or_true, Bool.not_true, Bool.not_false, Nat.reduceBEq, Bool.false_eq_true, if_true, if_false, List.cons_append, List.nil_append]; simp only [go_sem, seval]
    refine hK _ ?_; clear hK K
    (repeat refine ats_seq ?_); refine AT.ghost (st' := ⟨[(2, .bool false), (9, .bptr 5 0), (10, .l1 D), (22, .bptr 0 0)], [(0, srcB s0), (5, .bx [.l3 t])]⟩) (ghost_can [] (by simp only [rnLs, rnL, rn, rns, rns_bsV, sw, SlotsLe, St.get, slotGet, List.map_cons, List.map_nil, seval, AV.int.injEq, AV.bool.injEq, AV.l1.injEq, AV.l2.injEq, AV.l3.injEq, true_and, and_true]) (by simp only [sortH, insH, rnHs, rnH, rnT_e, rnT_srcB, rn, rns, rns_bsV, sw, List.map_cons, List.map_nil, seval])) ?_
    rw [← lD] at hV1 hV2
    refine gC fun K hK => ?_
    refine fcall_src (hV1) rfl rfl ?_; simp only [go_sem, seval]
    refine fcall_src (hV2) rfl rfl ?_; simp only [go_sem, seval]
    refine hK _ ?_; clear hK K
    (repeat refine ats_seq ?_); refine AT.ghost (st' := ⟨[(2, .bool false), (9, .bptr 5 0), (23, .l1 a.1), (24, .l1 b.1)], [(5, .bx [.l3 t])]⟩) (ghost_trans (ghost_drop [0]) (ghost_can [] (by simp only [killL, killA, killAs, killT_srcB, killAs_bsV, qOf, rmT, killH, killT_e, List.filter_cons, List.filter_nil, List.contains_cons, List.contains_nil, Bool.or_false, Bool.or_true, Bool.false_and, Bool.not_true, Bool.not_false, Bool.false_eq_true, if_true, if_false, rnLs, rnL, rn, rns, rns_bsV, sw, SlotsLe, St.get, slotGet, List.map_cons, List.map_nil, seval, AV.int.injEq, AV.bool.injEq, AV.l1.injEq, AV.l2.injEq, AV.l3.injEq, true_and, and_true]) (by simp only [killL, killA, killAs, killT_srcB, killAs_bsV, qOf, rmT, killH, killT_e, List.filter_cons, List.filter_nil, List.contains_cons, List.contains_nil, Bool.or_false, Bool.or_true, Bool.false_and, Bool.not_true, Bool.not_false, Bool.false_eq_true, if_true, if_false, sortH, insH, rnHs, rnH, rnT_e, rnT_srcB, rn, rns, rns_bsV, sw, List.map_cons, List.map_nil, seval]))) ?_
    refine gC fun K hK => ?_
    first | refine fcall_fresh rfl (m1) ?_ | refine YR_intro (acall_fresh rfl (m1)) ?_
    simp only [go_sem, seval]
    refine hK _ ?_; clear hK K
    refine gC fun K hK => ?_
    first | refine fcall_data (q1) rfl ?_ | refine YR_intro (acall_data (q1) rfl) ?_
    simp only [go_sem, seval]
    refine hK _ ?_; clear hK K
    refine gC fun K hK => ?_
    first | refine fcall_data (q2) rfl ?_ | refine YR_intro (acall_data (q2) rfl) ?_
    simp only [go_sem, seval]
    refine hK _ ?_; clear hK K
    refine gC fun K hK => ?_
    first | refine fcall_data (q3) rfl ?_ | refine YR_intro (acall_data (q3) rfl) ?_
    simp only [go_sem, seval]
    refine hK _ ?_; clear hK K
    refine gC fun K hK => ?_
    (repeat refine aI (hb := ?_))
    refine hK _ ?_; clear hK K
    refine ats_ret (finB rfl ?_)
    first | rfl | simp
end Go.Proofs.Ytjcfefgbieeheaa
