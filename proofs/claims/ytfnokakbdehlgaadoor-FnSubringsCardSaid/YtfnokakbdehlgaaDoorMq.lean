import Derived.Test.YtfnokakbdehlgaaDoorQd2
import Derived.Test.YtfnokakbdehlgaaDoorMn
import Derived.Test.YtfnokakbdehlgaaDoorMz3
import Derived.Test.YtfnokakbdehlgaaDoorMz2
import Derived.Test.YtfnokakbdehlgaaDoorMo
import Derived.Test.YtfnokakbdehlgaaDoorJz3
import Derived.Test.YtfnokakbdehlgaaDoorBb
import Derived.Test.YtfnokakbdehlgaaDoorWx1
set_option linter.unusedSimpArgs false
set_option linter.unusedVariables false
namespace Go.Proofs.YtfnokakbdehlgaaDoor
open Go Go.Aw Go.Pl
theorem freshLq {P : Program} {f : FuncId} {ds : List AV} {u : Option (List Int)} {c : Int} (h : FreshCall P f ds (.tup [optA u, .int c])) : FreshCall P f ds (.tup [.l1 (u.getD []), .int c]) := by
 cases u with
 | none => exact fresh_nil h
 | some u => exact h
theorem freshL3 {P : Program} {f : FuncId} {ds : List AV} {u : Option Cu} {c : Int} (h : FreshCall P f ds (.tup [.agg [optT u], .int c])) : FreshCall P f ds (.tup [.agg [.l3 (u.getD [])], .int c]) := by
 cases u with
 | none => exact fresh_le h (avLe_tup (avsLe_cons (avLe_agg (avsLe_cons avLe_nil3 (avsLe_rfl _))) (avsLe_rfl _)))
 | some u => exact h
theorem specIsR5_ok (t : Cu) : PureCall Tryd.prog 32 [.agg [.l3 t]] (.bool (isRing t)) := by
 have h := l03Is_ok t
 refine PureCall.intro (n := 5) (rs := [.tmp 2]) Tryd.call32 Tryd.func32 rfl rfl rfl (by simp only [List.length_cons, List.length_nil]; omega) (fun cx hcx => ats_of ?_); simp only [argSlots, Nat.zero_add, Nat.reduceAdd]
 refine gB ?_
 refine gC fun K hK => ?_
 first | refine fcall_data (h) rfl ?_ | refine YR_intro (acall_data (h) rfl) ?_
 simp only [go_sem, seval]
 refine hK _ ?_; clear hK K
 refine ats_ret (finB rfl ?_)
 rfl
theorem hasInt_ok (xs : List Int) (v : Int) : PureCall Tryd.prog 17 [.l1 xs, .int v] (.bool (decide (v ∈ xs))) := by
 refine PureCall.intro (n := 18) (rs := [.tmp 4]) Tryd.call17 Tryd.func17 rfl rfl rfl (by simp only [List.length_cons, List.length_nil]; omega) (fun cx hcx => ats_of ?_); simp only [argSlots, Nat.zero_add, Nat.reduceAdd]
 refine gB ?_
 refine ats_know 0 fun h0 => ?_; simp only [St.get, slotGet, Nat.reduceEqDiff, ↓reduceIte, if_true, fact, facts] at h0
 have lx := h0.1
 refine gB ?_
 (repeat refine ats_seq ?_); refine ats_loop (fun i : Nat => ⟨[(0, .l1 xs), (1, .int v), (4, .bool false), (5, .int i)], []⟩) (fun i => i ≤ xs.length ∧ ∀ b, b < i → xs.getD b 0 ≠ v) (fun i => xs.length - i) 0 ⟨Nat.zero_le _, fun a h => absurd h (Nat.not_lt_zero a)⟩ (by refine And.intro ?_ rfl; simp only [leS, Nat.reduceEqDiff, ↓reduceIte, true_and, and_true]; rfl) (fun i hi => ?_); obtain ⟨hi, Hi⟩ := hi
 refine gB ?_
 refine gI (fun h2 => ?_) fun h2 => ?_
 ·refine ats_skip ?_
  (repeat refine ats_seq ?_); refine ats_block ?_
  refine gB ?_
  refine gI (fun h3 => ?_) fun h3 => ?_
  ·refine gB ?_
   refine ats_ret (finB rfl ?_)
   refine (decide_eq_true ?_).symm
   rw [← h3, List.getD_eq_getElem?_getD, List.getElem?_eq_getElem (by omega)]
   exact List.getElem_mem _
  ·refine ats_skip ?_
   refine gB ?_
   refine ⟨i + 1, ⟨by omega, fun a ha => by rcases Nat.lt_succ_iff_lt_or_eq.1 ha with h | rfl; exact Hi a h; exact (by omega)⟩, by omega, .inl ⟨?_, rfl⟩⟩; simp only [leS, Nat.reduceEqDiff, ↓reduceIte, true_and, and_true]; omega
 ·refine ats_exit (lq_x ?_)
  refine gB ?_
  refine ats_ret (finB rfl ?_)
  refine (decide_eq_false fun hm => ?_).symm
  obtain ⟨j, j1, j2⟩ := List.mem_iff_getElem.1 hm
  have := Hi j (by omega)
  rw [List.getD_eq_getElem?_getD, List.getElem?_eq_getElem j1] at this
  exact this j2
set_option maxRecDepth 100000 in
set_option maxHeartbeats 8000000 in
theorem fnSubrings_ok (c : List Int) (hb : ByteOk c) : PureCall Tryd.prog 5 [.lv (bsV c)] (.bool true) := by
 have hbig := big_ok c
 by_cases h4 : 4096 < c.length
 ·rw [decide_eq_true h4] at hbig
  refine PureCall.introR (n := 241) (rs := [.tmp 2]) Tryd.call5 Tryd.func5 rfl rfl rfl (by simp only [List.length_cons, List.length_nil]; omega) (fun cx hcx hrd => ats_of ?_); simp only [argSlots, Nat.zero_add, Nat.reduceAdd]
  refine gB ?_
  refine gC fun K hK => ?_
  refine fcall_data (hbig) (by first | rfl | simp only [areData, Aw.isData, areData_bsV, Bool.and_true]) ?_; simp only [go_sem, seval]
  refine hK _ ?_; clear hK K
  (repeat refine ats_seq ?_); refine ats_yes rfl trivial ?_
  refine gB ?_
  refine ats_ret (finB rfl ?_)
  rfl
 have hc : CodeOk c := ⟨by omega, hb⟩
 rw [decide_eq_false h4] at hbig
 obtain ⟨t, x, lt, hD⟩ := DrawRingOfSubring_ok c hc
 obtain ⟨z, xs, lz, lxs, hE⟩ := DrawSubringFrom_ok c hc
 have k1 := freshL3 (implRs_ok t (by omega) x)
 have k2 := freshL3 (specRs_ok t x)
 have i1 := implIsS_ok t x
 have i2 := specIsS_ok t x
 have kS := specIsR5_ok t
 have l1 := freshLq (implSl_ok t)
 have a1 := implAd_ok t
 have u1 := implIu_ok t
 have m1 := implSi_ok t
 have f1 := implSf_ok z xs lxs
 have f2 := specSf_ok z xs lxs
 obtain ⟨R, eR⟩ : ∃ R, (rsR t x).1.getD [] = R := ⟨_, rfl⟩
 obtain ⟨rc, erc⟩ : ∃ rc, (rsR t x).2 = rc := ⟨_, rfl⟩
 obtain ⟨ib, eib⟩ : ∃ ib, isS t x = ib := ⟨_, rfl⟩
 have kr : PureCall Tryd.prog 29 [.agg [.l3 R], .agg [.l3 R]] (.bool true) := by simpa using ring9_ok R R
 have kR := IsRing_ok R
 rw [eR, erc] at k1 k2
 rw [eib] at i1 i2
 generalize sfR z xs = q at f1 f2
 refine PureCall.introR (n := 241) (rs := [.tmp 2]) Tryd.call5 Tryd.func5 rfl rfl rfl (by simp only [List.length_cons, List.length_nil]; omega) (fun cx hcx hrd => ats_of ?_); simp only [argSlots, Nat.zero_add, Nat.reduceAdd]
 refine gB ?_
 refine gC fun K hK => ?_
 refine fcall_data (hbig) (by first | rfl | simp only [areData, Aw.isData, areData_bsV, Bool.and_true]) ?_; simp only [go_sem, seval]
 refine hK _ ?_; clear hK K
 (repeat refine ats_seq ?_); refine ats_no rfl trivial ?_
 refine ats_skip ?_
 refine gC fun K hK => ?_
 refine fcall_data (hD) (by first | rfl | simp only [areData, Aw.isData, areData_bsV, Bool.and_true]) ?_; simp only [go_sem, seval]
 refine hK _ ?_; clear hK K
 (repeat refine ats_seq ?_); refine AT.ghost (st' := ⟨[(0, .lv (bsV c)), (2, .bool false), (3, .bptr 5 0), (4, .int x)], [(5, .bx [.l3 t])]⟩) (ghost_trans (ghost_drop []) (ghost_can [(0, 5)] (by simp only [killL, killA, killAs, killT_srcB, killAs_bsV, qOf, rmT, killH, killT_e, List.filter_cons, List.filter_nil, List.contains_cons, List.contains_nil, Bool.or_false, Bool.or_true, Bool.false_and, Bool.not_true, Bool.not_false, Bool.false_eq_true, if_true, if_false, rnLs, rnL, rn, rns, rns_bsV, sw, SlotsLe, St.get, slotGet, List.map_cons, List.map_nil, seval, AV.int.injEq, AV.bool.injEq, AV.l1.injEq, AV.l2.injEq, AV.l3.injEq, true_and, and_true]) (by simp only [killL, killA, killAs, killT_srcB, killAs_bsV, qOf, rmT, killH, killT_e, List.filter_cons, List.filter_nil, List.contains_cons, List.contains_nil, Bool.or_false, Bool.or_true, Bool.false_and, Bool.not_true, Bool.not_false, Bool.false_eq_true, if_true, if_false, sortH, insH, rnHs, rnH, rnT_e, rnT_srcB, rn, rns, rns_bsV, sw, List.map_cons, List.map_nil, seval]))) ?_
 refine gC fun K hK => ?_
 first | refine fcall_fresh rfl (k1) ?_ | refine YR_intro (acall_fresh rfl (k1)) ?_
 simp only [go_sem, seval]
 refine hK _ ?_; clear hK K
 refine gC fun K hK => ?_
 first | refine fcall_fresh rfl (k2) ?_ | refine YR_intro (acall_fresh rfl (k2)) ?_
 simp only [go_sem, seval]
 refine hK _ ?_; clear hK K
 (repeat refine ats_seq ?_); refine AT.ghost (st' := ⟨[(0, .lv (bsV c)), (2, .bool false), (3, .bptr 5 0), (4, .int x), (5, .bptr 6 0), (6, .int rc), (7, .bptr 7 0), (8, .int rc)], [(5, .bx [.l3 t]), (6, .bx [.l3 R]), (7, .bx [.l3 R])]⟩) (ghost_can [] (by simp only [rnLs, rnL, rn, rns, rns_bsV, sw, SlotsLe, St.get, slotGet, List.map_cons, List.map_nil, seval, AV.int.injEq, AV.bool.injEq, AV.l1.injEq, AV.l2.injEq, AV.l3.injEq, true_and, and_true]) (by simp only [sortH, insH, rnHs, rnH, rnT_e, rnT_srcB, rn, rns, rns_bsV, sw, List.map_cons, List.map_nil, seval])) ?_
 refine gC fun K hK => ?_
 first | refine YR_intro (fun _ => acall_free rfl rfl (kr)) ?_ | refine YR_intro (acall_free rfl rfl (kr)) ?_
 simp only [go_sem, seval]
 refine hK _ ?_; clear hK K
 refine gI (fun h1 => ?_) fun h1 => ?_
 ·simp at h1
 refine ats_skip ?_
 (repeat refine ats_seq ?_); refine AT.ghost (st' := ⟨[(0, .lv (bsV c)), (2, .bool false), (3, .bptr 5 0), (4, .int x), (5, .bptr 6 0), (6, .int rc)], [(5, .bx [.l3 t]), (6, .bx [.l3 R])]⟩) (ghost_trans (ghost_drop [7]) (ghost_can [] (by simp only [killL, killA, killAs, killT_srcB, killAs_bsV, qOf, rmT, killH, killT_e, List.filter_cons, List.filter_nil, List.contains_cons, List.contains_nil, Bool.or_false, Bool.or_true, Bool.false_and, Bool.not_true, Bool.not_false, Bool.false_eq_true, if_true, if_false, rnLs, rnL, rn, rns, rns_bsV, sw, SlotsLe, St.get, slotGet, List.map_cons, List.map_nil, seval, AV.int.injEq, AV.bool.injEq, AV.l1.injEq, AV.l2.injEq, AV.l3.injEq, true_and, and_true]) (by simp only [killL, killA, killAs, killT_srcB, killAs_bsV, qOf, rmT, killH, killT_e, List.filter_cons, List.filter_nil, List.contains_cons, List.contains_nil, Bool.or_false, Bool.or_true, Bool.false_and, Bool.not_true, Bool.not_false, Bool.false_eq_true, if_true, if_false, sortH, insH, rnHs, rnH, rnT_e, rnT_srcB, rn, rns, rns_bsV, sw, List.map_cons, List.map_nil, seval]))) ?_
 refine gC fun K hK => ?_
 first | refine fcall_data (i1) rfl ?_ | refine YR_intro (acall_data (i1) rfl) ?_
 simp only [go_sem, seval]
 refine hK _ ?_; clear hK K
 refine gC fun K hK => ?_
 first | refine fcall_data (i2) rfl ?_ | refine YR_intro (acall_data (i2) rfl) ?_
 simp only [go_sem, seval]
 refine hK _ ?_; clear hK K
 refine gA ?_
 refine gI (fun h2 => ?_) fun h2 => ?_
 ·simp at h2
 refine ats_skip ?_
 cases hr : isRing t with
 | false =>
  rw [hr] at kS
  have e : (1 : Int) = rc := by
   rw [← erc]
   unfold rsR scA
   rw [hr]
   rfl
  subst e
  refine gC fun K hK => ?_
  first | refine fcall_free rfl rfl (kS) ?_ | refine YR_intro (acall_free rfl rfl (kS)) ?_
  simp only [go_sem, seval]
  refine hK _ ?_; clear hK K
  (repeat refine ats_seq ?_); refine ats_yes rfl trivial ?_
  refine gA ?_
  refine ats_ret (finB rfl ?_)
  rfl
 | true =>
  rw [hr] at kS
  have h := isRing_P hr
  have h16 := h.cube.2.1
  unfold slR at l1
  unfold adR at a1
  unfold iuR at u1
  unfold siR at m1
  rw [hr] at l1 a1 u1 m1
  simp only [if_true] at l1 a1 u1 m1
  have gLl := fun (k : Nat) hk => get_allS (t := t) (k := k) hk
  have hA : ((adj t : Nat) : Int) ∈ allS t (2 ^ (t.length - 1)) := has_allS.2 ⟨_, adj_clos h, rfl⟩
  have hU : ((unS t : Nat) : Int) ∈ allS t (2 ^ (t.length - 1)) := has_allS.2 ⟨_, un_clos h, rfl⟩
  have hX := has_allS (t := t) (y := x)
  have hC : ∀ s, ((clo t s : Nat) : Int) ∈ allS t (2 ^ (t.length - 1)) := fun s => has_allS.2 ⟨_, h.clo_clos, rfl⟩
  have g1 := hasInt_ok (allS t (2 ^ (t.length - 1))) (adj t : Nat)
  have g2 := hasInt_ok (allS t (2 ^ (t.length - 1))) (unS t : Nat)
  have g3 := hasInt_ok (allS t (2 ^ (t.length - 1))) x
  have g4 := fun s => hasInt_ok (allS t (2 ^ (t.length - 1))) (clo t s : Nat)
  rw [decide_eq_true hA] at g1
  rw [decide_eq_true hU] at g2
  have g4 : ∀ s, PureCall Tryd.prog 17 [.l1 (allS t (2 ^ (t.length - 1))), .int (clo t s : Nat)] (.bool true) := fun s => by
   have := g4 s
   rwa [decide_eq_true (hC s)] at this
  clear hA hU hC
  obtain ⟨L, eL⟩ : ∃ L, allS t (2 ^ (t.length - 1)) = L := ⟨_, rfl⟩
  rw [eL] at g1 g2 g3 gLl hX
  simp only [eL] at g4
  have l1 : FreshCall Tryd.prog 33 [.agg [.l3 t]] (.tup [.l1 L, .int 0]) := by rw [← eL]; exact l1
  rw [eL] at m1
  have lL : L.length ≤ 65536 := by
   rw [← eL]
   exact Nat.le_trans allS_len (Nat.pow_le_pow_right (n := 2) (by decide) (show t.length - 1 ≤ 16 by omega))
  obtain ⟨s2, es2⟩ : ∃ b, decide (L.length = 2) = b := ⟨_, rfl⟩
  have e2l : decide ((L.length : Int) = 2) = s2 := by rw [← es2, decide_eq_decide]; omega
  rw [es2] at m1
  obtain ⟨A, eA⟩ : ∃ A : Int, ((adj t : Nat) : Int) = A := ⟨_, rfl⟩
  obtain ⟨U, eU⟩ : ∃ U : Int, ((unS t : Nat) : Int) = U := ⟨_, rfl⟩
  rw [eA] at a1 g1
  rw [eU] at u1 g2
  refine gC fun K hK => ?_
  first | refine fcall_free rfl rfl (kS) ?_ | refine YR_intro (acall_free rfl rfl (kS)) ?_
  simp only [go_sem, seval]
  refine hK _ ?_; clear hK K
  (repeat refine ats_seq ?_); refine ats_no rfl trivial ?_
  refine ats_skip ?_
  refine gC fun K hK => ?_
  first | refine fcall_fresh rfl (l1) ?_ | refine YR_intro (acall_fresh rfl (l1)) ?_
  simp only [go_sem, seval]
  refine hK _ ?_; clear hK K
  refine gC fun K hK => ?_
  first | refine fcall_data (a1) rfl ?_ | refine YR_intro (acall_data (a1) rfl) ?_
  simp only [go_sem, seval]
  refine hK _ ?_; clear hK K
  refine gC fun K hK => ?_
  first | refine fcall_data (u1) rfl ?_ | refine YR_intro (acall_data (u1) rfl) ?_
  simp only [go_sem, seval]
  refine hK _ ?_; clear hK K
  refine gC fun K hK => ?_
  first | refine fcall_data (m1) rfl ?_ | refine YR_intro (acall_data (m1) rfl) ?_
  simp only [go_sem, seval]
  refine hK _ ?_; clear hK K
  (repeat refine ats_seq ?_); refine AT.ghost (st' := ⟨[(0, .lv (bsV c)), (2, .bool false), (3, .bptr 5 0), (4, .int x), (5, .bptr 6 0), (6, .int rc), (9, .bool ib.1), (10, .int ib.2), (13, .l1 L), (14, .int 0), (15, .int A), (16, .int 0), (17, .int U), (18, .int 0), (19, .bool s2), (20, .int 0)], [(5, .bx [.l3 t]), (6, .bx [.l3 R])]⟩) (ghost_trans (ghost_drop []) (ghost_can [] (by simp only [killL, killA, killAs, killT_srcB, killAs_bsV, qOf, rmT, killH, killT_e, List.filter_cons, List.filter_nil, List.contains_cons, List.contains_nil, Bool.or_false, Bool.or_true, Bool.false_and, Bool.not_true, Bool.not_false, Bool.false_eq_true, if_true, if_false, rnLs, rnL, rn, rns, rns_bsV, sw, SlotsLe, St.get, slotGet, List.map_cons, List.map_nil, seval, AV.int.injEq, AV.bool.injEq, AV.l1.injEq, AV.l2.injEq, AV.l3.injEq, true_and, and_true]) (by simp only [killL, killA, killAs, killT_srcB, killAs_bsV, qOf, rmT, killH, killT_e, List.filter_cons, List.filter_nil, List.contains_cons, List.contains_nil, Bool.or_false, Bool.or_true, Bool.false_and, Bool.not_true, Bool.not_false, Bool.false_eq_true, if_true, if_false, sortH, insH, rnHs, rnH, rnT_e, rnT_srcB, rn, rns, rns_bsV, sw, List.map_cons, List.map_nil, seval]))) ?_
  have hR : rc = 0 → isRing R = true := fun hz => by
   unfold rsR at eR erc
   by_cases hsc : scA t x = 0
   ·rw [if_pos hsc] at eR erc
    by_cases hC : ClosP t x.toNat
    ·rw [if_pos (bd_true hC)] at eR
     rw [← eR]
     exact (sub_ring h hC).faults
    ·rw [if_neg (fun hb => hC (bd_iff.1 hb))] at erc
     have erc : (5 : Int) = rc := erc
     omega
   ·rw [if_neg hsc] at erc
    exact (hsc (by rw [← hz, ← erc])).elim
  (repeat refine ats_seq ?_)
  refine ats_upto ⟨[(0, .lv (bsV c)), (2, .bool false), (3, .bptr 5 0), (5, .bptr 6 0), (6, .int rc), (13, .l1 L), (155, .bool false)], [(5, .bx [.l3 t]), (6, .bx [.l3 R])]⟩ ?_ ?_
  ·by_cases hsc : scA t x = 0
   ·obtain ⟨_, hx0, hlt, ex⟩ := scA_ok hsc
    by_cases hC : ClosP t x.toNat
    ·have e1 : (true, (0 : Int)) = ib := by rw [← eib]; unfold isS; rw [if_pos hsc, bd_true hC]
     have e2 : (0 : Int) = rc := by rw [← erc]; unfold rsR; rw [if_pos hsc, if_pos (bd_true hC)]
     subst e1 e2
     rw [decide_eq_true (hX.2 ⟨_, hC, ex.symm⟩)] at g3
     refine gC fun K hK => ?_
     first | refine YR_intro (fun _ => acall_free rfl rfl (g1)) ?_ | refine YR_intro (acall_free rfl rfl (g1)) ?_
     simp only [go_sem, seval]
     first | refine YR_intro (fun _ => acall_free rfl rfl (g2)) ?_ | refine YR_intro (acall_free rfl rfl (g2)) ?_
     simp only [go_sem, seval]
     simp only [e2l, decide_true, decide_false, Bool.not_true, Bool.not_false, Bool.or_false, Bool.false_or, Bool.or_self, Bool.and_false, Bool.and_true, Bool.false_and, Bool.true_and, beq_self_eq_true, bne_self_eq_false, Bool.true_beq, Bool.false_beq, forall_const, Bool.false_eq_true, false_implies, true_and, and_true]
     first | refine YR_intro (fun _ => acall_free rfl rfl (g3)) ?_ | refine YR_intro (acall_free rfl rfl (g3)) ?_
     simp only [go_sem, seval]
     simp only [decide_true, decide_false, beq_self_eq_true, Bool.not_true]
     refine hK _ ?_; clear hK K
     refine ats_nil ?_; refine Or.inl ⟨rfl, ghost_trans (ghost_drop []) (ghost_can [] (by simp only [killL, killA, killAs, killT_srcB, killAs_bsV, qOf, rmT, killH, killT_e, List.filter_cons, List.filter_nil, List.contains_cons, List.contains_nil, Bool.or_false, Bool.or_true, Bool.false_and, Bool.not_true, Bool.not_false, Bool.false_eq_true, if_true, if_false, rnLs, rnL, rn, rns, rns_bsV, sw, SlotsLe, St.get, slotGet, List.map_cons, List.map_nil, seval, AV.int.injEq, AV.bool.injEq, AV.l1.injEq, AV.l2.injEq, AV.l3.injEq, true_and, and_true]) (by simp only [killL, killA, killAs, killT_srcB, killAs_bsV, qOf, rmT, killH, killT_e, List.filter_cons, List.filter_nil, List.contains_cons, List.contains_nil, Bool.or_false, Bool.or_true, Bool.false_and, Bool.not_true, Bool.not_false, Bool.false_eq_true, if_true, if_false, sortH, insH, rnHs, rnH, rnT_e, rnT_srcB, rn, rns, rns_bsV, sw, List.map_cons, List.map_nil, seval]))⟩
    ·have e1 : (false, (0 : Int)) = ib := by rw [← eib]; unfold isS; rw [if_pos hsc, bd_false hC]
     have e2 : (5 : Int) = rc := by rw [← erc]; unfold rsR; rw [if_pos hsc, if_neg (fun hb => hC (bd_iff.1 hb))]
     subst e1 e2
     rw [decide_eq_false (fun hm => by
      obtain ⟨s, h5, h6⟩ := hX.1 hm
      exact hC (by rw [h6, Int.toNat_natCast]; exact h5))] at g3
     refine gC fun K hK => ?_
     first | refine YR_intro (fun _ => acall_free rfl rfl (g1)) ?_ | refine YR_intro (acall_free rfl rfl (g1)) ?_
     simp only [go_sem, seval]
     first | refine YR_intro (fun _ => acall_free rfl rfl (g2)) ?_ | refine YR_intro (acall_free rfl rfl (g2)) ?_
     simp only [go_sem, seval]
     simp only [e2l, decide_true, decide_false, Bool.not_true, Bool.not_false, Bool.or_false, Bool.false_or, Bool.or_self, Bool.and_false, Bool.and_true, Bool.false_and, Bool.true_and, beq_self_eq_true, bne_self_eq_false, Bool.true_beq, Bool.false_beq, forall_const, Bool.false_eq_true, false_implies, true_and, and_true]
     first | refine YR_intro (fun _ => acall_free rfl rfl (g3)) ?_ | refine YR_intro (acall_free rfl rfl (g3)) ?_
     simp only [go_sem, seval]
     simp only [decide_true, decide_false, beq_self_eq_true, Bool.not_true]
     refine hK _ ?_; clear hK K
     refine ats_nil ?_; refine Or.inl ⟨rfl, ghost_trans (ghost_drop []) (ghost_can [] (by simp only [killL, killA, killAs, killT_srcB, killAs_bsV, qOf, rmT, killH, killT_e, List.filter_cons, List.filter_nil, List.contains_cons, List.contains_nil, Bool.or_false, Bool.or_true, Bool.false_and, Bool.not_true, Bool.not_false, Bool.false_eq_true, if_true, if_false, rnLs, rnL, rn, rns, rns_bsV, sw, SlotsLe, St.get, slotGet, List.map_cons, List.map_nil, seval, AV.int.injEq, AV.bool.injEq, AV.l1.injEq, AV.l2.injEq, AV.l3.injEq, true_and, and_true]) (by simp only [killL, killA, killAs, killT_srcB, killAs_bsV, qOf, rmT, killH, killT_e, List.filter_cons, List.filter_nil, List.contains_cons, List.contains_nil, Bool.or_false, Bool.or_true, Bool.false_and, Bool.not_true, Bool.not_false, Bool.false_eq_true, if_true, if_false, sortH, insH, rnHs, rnH, rnT_e, rnT_srcB, rn, rns, rns_bsV, sw, List.map_cons, List.map_nil, seval]))⟩
   ·have e1 : (false, scA t x) = ib := by rw [← eib]; unfold isS; rw [if_neg hsc]
    have e2 : scA t x = rc := by rw [← erc]; unfold rsR; rw [if_neg hsc]
    rw [e2] at e1 hsc
    subst e1
    have e4 : decide (rc = 0) = false := decide_eq_false hsc
    refine gC fun K hK => ?_
    first | refine YR_intro (fun _ => acall_free rfl rfl (g1)) ?_ | refine YR_intro (acall_free rfl rfl (g1)) ?_
    simp only [go_sem, seval]
    first | refine YR_intro (fun _ => acall_free rfl rfl (g2)) ?_ | refine YR_intro (acall_free rfl rfl (g2)) ?_
    simp only [go_sem, seval]
    simp only [e4, e2l, decide_true, decide_false, Bool.not_true, Bool.not_false, Bool.or_false, Bool.false_or, Bool.or_self, Bool.and_false, Bool.and_true, Bool.false_and, Bool.true_and, beq_self_eq_true, bne_self_eq_false, Bool.true_beq, Bool.false_beq, forall_const, Bool.false_eq_true, false_implies, true_and, and_true]
    refine YR_intro (v := .bool false) (by first | trivial | (intro h; cases h)) ?_
    simp only [go_sem, seval]
    (repeat refine aI (hb := ?_))
    refine hK _ ?_; clear hK K
    refine ats_nil ?_; refine Or.inl ⟨rfl, ghost_trans (ghost_drop []) (ghost_can [] (by simp only [killL, killA, killAs, killT_srcB, killAs_bsV, qOf, rmT, killH, killT_e, List.filter_cons, List.filter_nil, List.contains_cons, List.contains_nil, Bool.or_false, Bool.or_true, Bool.false_and, Bool.not_true, Bool.not_false, Bool.false_eq_true, if_true, if_false, rnLs, rnL, rn, rns, rns_bsV, sw, SlotsLe, St.get, slotGet, List.map_cons, List.map_nil, seval, AV.int.injEq, AV.bool.injEq, AV.l1.injEq, AV.l2.injEq, AV.l3.injEq, true_and, and_true]) (by simp only [killL, killA, killAs, killT_srcB, killAs_bsV, qOf, rmT, killH, killT_e, List.filter_cons, List.filter_nil, List.contains_cons, List.contains_nil, Bool.or_false, Bool.or_true, Bool.false_and, Bool.not_true, Bool.not_false, Bool.false_eq_true, if_true, if_false, sortH, insH, rnHs, rnH, rnT_e, rnT_srcB, rn, rns, rns_bsV, sw, List.map_cons, List.map_nil, seval]))⟩
  (repeat refine ats_seq ?_); refine ats_no rfl trivial ?_
  refine ats_skip ?_
  (repeat refine ats_seq ?_)
  refine ats_upto ⟨[(0, .lv (bsV c)), (2, .bool false), (3, .bptr 5 0), (13, .l1 L), (162, .bool false)], [(5, .bx [.l3 t])]⟩ ?_ ?_
  ·by_cases hz : rc = 0
   ·rw [hR hz] at kR
    have e4 : decide (rc = 0) = true := decide_eq_true hz
    refine gC fun K hK => ?_
    simp only [e4, e2l, decide_true, decide_false, Bool.not_true, Bool.not_false, Bool.or_false, Bool.false_or, Bool.or_self, Bool.and_false, Bool.and_true, Bool.false_and, Bool.true_and, beq_self_eq_true, bne_self_eq_false, Bool.true_beq, Bool.false_beq, forall_const, Bool.false_eq_true, false_implies, true_and, and_true]
    first | refine YR_intro (fun _ => acall_free rfl rfl (kR)) ?_ | refine YR_intro (acall_free rfl rfl (kR)) ?_
    simp only [go_sem, seval]
    refine hK _ ?_; clear hK K
    refine ats_nil ?_; refine Or.inl ⟨rfl, ghost_trans (ghost_drop [6]) (ghost_can [] (by simp only [killL, killA, killAs, killT_srcB, killAs_bsV, qOf, rmT, killH, killT_e, List.filter_cons, List.filter_nil, List.contains_cons, List.contains_nil, Bool.or_false, Bool.or_true, Bool.false_and, Bool.not_true, Bool.not_false, Bool.false_eq_true, if_true, if_false, rnLs, rnL, rn, rns, rns_bsV, sw, SlotsLe, St.get, slotGet, List.map_cons, List.map_nil, seval, AV.int.injEq, AV.bool.injEq, AV.l1.injEq, AV.l2.injEq, AV.l3.injEq, true_and, and_true]) (by simp only [killL, killA, killAs, killT_srcB, killAs_bsV, qOf, rmT, killH, killT_e, List.filter_cons, List.filter_nil, List.contains_cons, List.contains_nil, Bool.or_false, Bool.or_true, Bool.false_and, Bool.not_true, Bool.not_false, Bool.false_eq_true, if_true, if_false, sortH, insH, rnHs, rnH, rnT_e, rnT_srcB, rn, rns, rns_bsV, sw, List.map_cons, List.map_nil, seval]))⟩
   ·have e4 : decide (rc = 0) = false := decide_eq_false hz
    refine gC fun K hK => ?_
    simp only [e4, e2l, decide_true, decide_false, Bool.not_true, Bool.not_false, Bool.or_false, Bool.false_or, Bool.or_self, Bool.and_false, Bool.and_true, Bool.false_and, Bool.true_and, beq_self_eq_true, bne_self_eq_false, Bool.true_beq, Bool.false_beq, forall_const, Bool.false_eq_true, false_implies, true_and, and_true]
    refine YR_intro (v := .bool false) (by first | trivial | (intro h; cases h)) ?_
    simp only [go_sem, seval]
    (repeat refine aI (hb := ?_))
    refine hK _ ?_; clear hK K
    refine ats_nil ?_; refine Or.inl ⟨rfl, ghost_trans (ghost_drop [6]) (ghost_can [] (by simp only [killL, killA, killAs, killT_srcB, killAs_bsV, qOf, rmT, killH, killT_e, List.filter_cons, List.filter_nil, List.contains_cons, List.contains_nil, Bool.or_false, Bool.or_true, Bool.false_and, Bool.not_true, Bool.not_false, Bool.false_eq_true, if_true, if_false, rnLs, rnL, rn, rns, rns_bsV, sw, SlotsLe, St.get, slotGet, List.map_cons, List.map_nil, seval, AV.int.injEq, AV.bool.injEq, AV.l1.injEq, AV.l2.injEq, AV.l3.injEq, true_and, and_true]) (by simp only [killL, killA, killAs, killT_srcB, killAs_bsV, qOf, rmT, killH, killT_e, List.filter_cons, List.filter_nil, List.contains_cons, List.contains_nil, Bool.or_false, Bool.or_true, Bool.false_and, Bool.not_true, Bool.not_false, Bool.false_eq_true, if_true, if_false, sortH, insH, rnHs, rnH, rnT_e, rnT_srcB, rn, rns, rns_bsV, sw, List.map_cons, List.map_nil, seval]))⟩
  (repeat refine ats_seq ?_); refine ats_no rfl trivial ?_
  refine ats_skip ?_
  refine gC fun K hK => ?_
  refine fcall_data (hE) (by first | rfl | simp only [areData, Aw.isData, areData_bsV, Bool.and_true]) ?_; simp only [go_sem, seval]
  refine hK _ ?_; clear hK K
  refine gC fun K hK => ?_
  first | refine fcall_data (f1) rfl ?_ | refine YR_intro (acall_data (f1) rfl) ?_
  simp only [go_sem, seval]
  refine hK _ ?_; clear hK K
  refine gC fun K hK => ?_
  first | refine fcall_data (f2) rfl ?_ | refine YR_intro (acall_data (f2) rfl) ?_
  simp only [go_sem, seval]
  refine hK _ ?_; clear hK K
  refine gA ?_
  refine gI (fun h6 => ?_) fun h6 => ?_
  ·simp at h6
  refine ats_skip ?_
  (repeat refine ats_seq ?_); refine AT.ghost (st' := ⟨[(0, .lv (bsV c)), (2, .bool false), (3, .bptr 5 0), (13, .l1 L)], [(5, .bx [.l3 t])]⟩) (ghost_trans (ghost_drop [6]) (ghost_can [] (by simp only [killL, killA, killAs, killT_srcB, killAs_bsV, qOf, rmT, killH, killT_e, List.filter_cons, List.filter_nil, List.contains_cons, List.contains_nil, Bool.or_false, Bool.or_true, Bool.false_and, Bool.not_true, Bool.not_false, Bool.false_eq_true, if_true, if_false, rnLs, rnL, rn, rns, rns_bsV, sw, SlotsLe, St.get, slotGet, List.map_cons, List.map_nil, seval, AV.int.injEq, AV.bool.injEq, AV.l1.injEq, AV.l2.injEq, AV.l3.injEq, true_and, and_true]) (by simp only [killL, killA, killAs, killT_srcB, killAs_bsV, qOf, rmT, killH, killT_e, List.filter_cons, List.filter_nil, List.contains_cons, List.contains_nil, Bool.or_false, Bool.or_true, Bool.false_and, Bool.not_true, Bool.not_false, Bool.false_eq_true, if_true, if_false, sortH, insH, rnHs, rnH, rnT_e, rnT_srcB, rn, rns, rns_bsV, sw, List.map_cons, List.map_nil, seval]))) ?_
  refine gA ?_
  have hS := roll_ok c hc 4006
  have ok0 := rlS_ok (seed := 4006) hc
  generalize rlS c 4006 = s0 at *
  have hJ := below_ok s0 ok0 t.length (by omega)
  have bJ := nx_bd s0 (n := t.length) (by have := h.cube.1; omega)
  generalize nx s0 t.length = j at *
  obtain ⟨y, ey⟩ : ∃ y : Nat, (y : Int) = j.1 := ⟨j.1.toNat, by omega⟩
  have hy : y < t.length := by omega
  rw [← ey] at hJ
  have f3 := implSf_ok t [(y : Int)] (by simp)
  have es : sfR t [(y : Int)] = (((clo t (2 ^ y) : Nat) : Int), 0) := by
   unfold sfR
   rw [hr, if_pos rfl, if_pos (bd_true (fun i hi => by
    obtain rfl : i = 0 := by simpa using hi
    exact lblB_iff.2 ⟨by simp, by simpa using hy⟩))]
   have : frS' t.length [(y : Int)] [(y : Int)].length = 2 ^ y := by
    have := frS'_step (n := t.length) (xs := [(y : Int)]) (m := 0) hy rfl
    rw [frS'_zero, Nat.zero_or] at this
    exact this.symm
   rw [this]
  rw [es] at f3
  have hyl := pow_lt hy
  have g5 := g4 (2 ^ y)
  have cy : (clo t (2 ^ y)).testBit y = true := clo_sub hyl y (pow_bit.2 rfl)
  have cl : clo t (2 ^ y) < 2 ^ t.length := clo_lt
  have cm : ∀ s, ClosP t s → s.testBit y = true → Sub (clo t (2 ^ y)) s := fun s hs hb => clo_in hs fun i hi => by
   rw [pow_bit.1 hi]
   exact hb
  generalize clo t (2 ^ y) = C at *
  have c16 := full_in h16 cl
  have eb : andI (shrI (C : Int) ((y : Int) % 18446744073709551616)) 1 = 1 := by
   have := bit_get (a := C) (k := y) (by omega) (by omega)
   rw [cy] at this
   rw [show (y : Int) % 18446744073709551616 = (y : Int) by omega]
   exact this
  refine gC fun K hK => ?_
  refine fcall_box (hS) (by simp [Aw.ids]) (by simp [find]) (by simp [closedT, killT_e, killAs, killA, outQ, Aw.ids]) (by simp [killAs, killA, outQ, Aw.ids]) (by simp [Aw.ids]) ?_; simp only [Aw.ids, List.map_cons, List.map_nil, List.filter_cons, List.filter_nil, List.contains_cons, List.contains_nil, Bool.or_false, Bool.or_true, Bool.not_true, Bool.not_false, Nat.reduceBEq, Bool.false_eq_true, if_true, if_false, List.cons_append, List.nil_append]; simp only [go_sem, seval]
  refine hK _ ?_; clear hK K
  (repeat refine ats_seq ?_); refine AT.ghost (st' := ⟨[(2, .bool false), (3, .bptr 5 0), (13, .l1 L), (27, .int t.length), (28, .bptr 0 0)], [(0, srcB s0), (5, .bx [.l3 t])]⟩) (ghost_can [] (by simp only [rnLs, rnL, rn, rns, rns_bsV, sw, SlotsLe, St.get, slotGet, List.map_cons, List.map_nil, seval, AV.int.injEq, AV.bool.injEq, AV.l1.injEq, AV.l2.injEq, AV.l3.injEq, true_and, and_true]) (by simp only [sortH, insH, rnHs, rnH, rnT_e, rnT_srcB, rn, rns, rns_bsV, sw, List.map_cons, List.map_nil, seval])) ?_
  refine gC fun K hK => ?_
  refine fcall_src (hJ) rfl rfl ?_; simp only [go_sem, seval]
  refine hK _ ?_; clear hK K
  (repeat refine ats_seq ?_); refine AT.ghost (st' := ⟨[(2, .bool false), (3, .bptr 5 0), (13, .l1 L), (29, .int y)], [(5, .bx [.l3 t])]⟩) (ghost_trans (ghost_drop [0]) (ghost_can [] (by simp only [killL, killA, killAs, killT_srcB, killAs_bsV, qOf, rmT, killH, killT_e, List.filter_cons, List.filter_nil, List.contains_cons, List.contains_nil, Bool.or_false, Bool.or_true, Bool.false_and, Bool.not_true, Bool.not_false, Bool.false_eq_true, if_true, if_false, rnLs, rnL, rn, rns, rns_bsV, sw, SlotsLe, St.get, slotGet, List.map_cons, List.map_nil, seval, AV.int.injEq, AV.bool.injEq, AV.l1.injEq, AV.l2.injEq, AV.l3.injEq, true_and, and_true]) (by simp only [killL, killA, killAs, killT_srcB, killAs_bsV, qOf, rmT, killH, killT_e, List.filter_cons, List.filter_nil, List.contains_cons, List.contains_nil, Bool.or_false, Bool.or_true, Bool.false_and, Bool.not_true, Bool.not_false, Bool.false_eq_true, if_true, if_false, sortH, insH, rnHs, rnH, rnT_e, rnT_srcB, rn, rns, rns_bsV, sw, List.map_cons, List.map_nil, seval]))) ?_
  refine gC fun K hK => ?_
  first | refine fcall_free rfl rfl (f3) ?_ | refine YR_intro (acall_free rfl rfl (f3)) ?_
  simp only [go_sem, seval]
  refine hK _ ?_; clear hK K
  (repeat refine ats_seq ?_); refine AT.ghost (st' := ⟨[(2, .bool false), (13, .l1 L), (29, .int y), (30, .int C), (31, .int 0)], []⟩) (ghost_trans (ghost_drop [5, 6]) (ghost_can [] (by simp only [killL, killA, killAs, killT_srcB, killAs_bsV, qOf, rmT, killH, killT_e, List.filter_cons, List.filter_nil, List.contains_cons, List.contains_nil, Bool.or_false, Bool.or_true, Bool.false_and, Bool.not_true, Bool.not_false, Bool.false_eq_true, if_true, if_false, rnLs, rnL, rn, rns, rns_bsV, sw, SlotsLe, St.get, slotGet, List.map_cons, List.map_nil, seval, AV.int.injEq, AV.bool.injEq, AV.l1.injEq, AV.l2.injEq, AV.l3.injEq, true_and, and_true]) (by simp only [killL, killA, killAs, killT_srcB, killAs_bsV, qOf, rmT, killH, killT_e, List.filter_cons, List.filter_nil, List.contains_cons, List.contains_nil, Bool.or_false, Bool.or_true, Bool.false_and, Bool.not_true, Bool.not_false, Bool.false_eq_true, if_true, if_false, sortH, insH, rnHs, rnH, rnT_e, rnT_srcB, rn, rns, rns_bsV, sw, List.map_cons, List.map_nil, seval]))) ?_
  refine gC fun K hK => ?_
  (repeat refine aI (hb := ?_))
  rw [eb]
  refine hK _ ?_; clear hK K
  (repeat refine ats_seq ?_); refine ats_no rfl trivial ?_
  refine ats_skip ?_
  refine gA ?_
  (repeat refine ats_seq ?_); refine ats_loop (fun k : Nat => ⟨[(2, .bool false), (13, .l1 L), (29, .int y), (30, .int C), (32, .int k)], []⟩) (fun k => k ≤ L.length) (fun k => L.length - k) 0 (Nat.zero_le _) (by refine And.intro ?_ rfl; simp only [leS, Nat.reduceEqDiff, ↓reduceIte, true_and, and_true]; repeat' (first | rfl | with_reducible refine And.intro ?_ ?_ | omega)) (fun k hk => ?_)
  refine gA ?_
  refine gI (fun hlk => ?_) fun hlk => ?_
  ·obtain ⟨v, hv, ev⟩ := gLl k (by omega)
   have v16 := full_in h16 hv.lt
   have ev2 : andI (shrI (v : Int) ((y : Int) % 18446744073709551616)) 1 = if v.testBit y then 1 else 0 := by
    have := bit_get (a := v) (k := y) (by omega) (by omega)
    rw [show (y : Int) % 18446744073709551616 = (y : Int) by omega]
    exact this
   have ea : v.testBit y = true → andI (v : Int) (C : Int) = (C : Int) := fun hb => by
    rw [andS v16 c16]
    have : v &&& C = C := bits_ext fun i => by
     rw [and_bit]
     exact ⟨fun h => h.2, fun h => ⟨cm v hv hb i h, h⟩⟩
    rw [this]
   refine ats_skip ?_
   (repeat refine ats_seq ?_); refine ats_block ?_
   cases hbit : v.testBit y with
   | true =>
    have ea := ea hbit
    have ev2 : andI (shrI (v : Int) ((y : Int) % 18446744073709551616)) 1 = 1 := by rw [ev2, hbit]; rfl
    refine gC fun K hK => ?_
    simp only [ev, ev2, ea, decide_true, Bool.not_true, Bool.not_false, Bool.and_false, Bool.true_and, Bool.true_beq, forall_const, beq_self_eq_true]
    (repeat refine aI (hb := ?_))
    refine hK _ ?_; clear hK K
    (repeat refine ats_seq ?_); refine ats_no rfl trivial ?_
    refine ats_skip ?_
    refine gB ?_
    refine ⟨k + 1,  by omega, by omega, .inl ⟨by simp only [leS, Nat.reduceEqDiff, ↓reduceIte, true_and, and_true]; omega,  rfl⟩⟩
   | false =>
    have ev2 : andI (shrI (v : Int) ((y : Int) % 18446744073709551616)) 1 = 0 := by rw [ev2, hbit]; rfl
    have e0 : decide ((0 : Int) = 1) = false := rfl
    refine gC fun K hK => ?_
    simp only [ev, ev2, e0, decide_false, Bool.not_true, Bool.not_false, Bool.false_and, Bool.false_beq, Bool.false_eq_true, false_implies, forall_const, beq_self_eq_true]
    (repeat refine aI (hb := ?_))
    refine hK _ ?_; clear hK K
    (repeat refine ats_seq ?_); refine ats_no rfl trivial ?_
    refine ats_skip ?_
    refine gB ?_
    refine ⟨k + 1,  by omega, by omega, .inl ⟨by simp only [leS, Nat.reduceEqDiff, ↓reduceIte, true_and, and_true]; omega,  rfl⟩⟩
  ·refine ats_exit (lq_x ?_)
   refine gC fun K hK => ?_
   first | refine fcall_data (g5) rfl ?_ | refine YR_intro (acall_data (g5) rfl) ?_
   simp only [go_sem, seval]
   refine hK _ ?_; clear hK K
   refine ats_ret (finB rfl ?_)
   rfl
end Go.Proofs.YtfnokakbdehlgaaDoor
