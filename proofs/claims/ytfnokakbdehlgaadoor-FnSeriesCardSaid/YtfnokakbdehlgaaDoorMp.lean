import Derived.Test.YtfnokakbdehlgaaDoorMn
import Derived.Test.YtfnokakbdehlgaaDoorMz2
import Derived.Test.YtfnokakbdehlgaaDoorMo
import Derived.Test.YtfnokakbdehlgaaDoorJz3
import Derived.Test.YtfnokakbdehlgaaDoorBb
import Derived.Test.YtfnokakbdehlgaaDoorWx1
set_option linter.unusedSimpArgs false
set_option linter.unusedVariables false
namespace Go.Proofs.YtfnokakbdehlgaaDoor
open Go Go.Aw Go.Pl
theorem freshLs {P : Program} {f : FuncId} {ds : List AV} {u : Option (List Int)} {c : Int} (h : FreshCall P f ds (.tup [optA u, .int c])) : FreshCall P f ds (.tup [.l1 (u.getD []), .int c]) := by
 cases u with
 | none => exact fresh_nil h
 | some u => exact h
set_option maxRecDepth 100000 in
set_option maxHeartbeats 8000000 in
theorem fnSeries_ok (c : List Int) (hb : ByteOk c) : PureCall Tryd.prog 4 [.lv (bsV c)] (.bool true) := by
 have hbig := big_ok c
 by_cases h4 : 4096 < c.length
 ·rw [decide_eq_true h4] at hbig
  refine PureCall.introR (n := 197) (rs := [.tmp 2]) Tryd.call4 Tryd.func4 rfl rfl rfl (by simp only [List.length_cons, List.length_nil]; omega) (fun cx hcx hrd => ats_of ?_); simp only [argSlots, Nat.zero_add, Nat.reduceAdd]
  refine gB ?_
  refine gC fun K hK => ?_
  refine fcall_data (hbig) (by first | rfl | simp only [areData, Aw.isData, areData_bsV, Bool.and_true]) ?_; simp only [go_sem, seval]
  refine hK _ ?_; clear hK K
  (repeat refine ats_seq ?_); refine ats_yes rfl trivial ?_
  refine gB ?_
  refine ats_ret (finB rfl ?_)
  rfl
 have hc : CodeOk c := ⟨by omega, hb⟩
 rw [decide_eq_false h4] at hbig
 obtain ⟨t, lt, hD⟩ := DrawAdjointSeries_ok c hc
 obtain ⟨z, x, lz, hE⟩ := DrawCosetsOf_ok c hc
 have k1 := freshLs (implSe_ok t lt)
 have k2 := freshLs (specSe_ok t)
 have n1 := implNp_ok t lt
 have n2 := specNp_ok t
 have a1 := implAd_ok t
 have c1 := freshLs (implCoS_ok z x)
 have c2 := freshLs (specCo_ok' z x)
 have kl : PureCall Tryd.prog 13 [.l1 ((seR t).1.getD []), .l1 ((seR t).1.getD [])] (.bool true) := by simpa using likeInts_ok ((seR t).1.getD []) ((seR t).1.getD [])
 have kc : PureCall Tryd.prog 13 [.l1 ((coR z x).1.getD []), .l1 ((coR z x).1.getD [])] (.bool true) := by simpa using likeInts_ok ((coR z x).1.getD []) ((coR z x).1.getD [])
 obtain ⟨L, eL⟩ : ∃ L, (seR t).1.getD [] = L := ⟨_, rfl⟩
 obtain ⟨cs, ecs⟩ : ∃ cs, (seR t).2 = cs := ⟨_, rfl⟩
 obtain ⟨np, enp⟩ : ∃ np, npR t = np := ⟨_, rfl⟩
 rw [eL] at k1 k2 kl
 rw [ecs] at k1 k2
 rw [enp] at n1 n2
 refine PureCall.introR (n := 197) (rs := [.tmp 2]) Tryd.call4 Tryd.func4 rfl rfl rfl (by simp only [List.length_cons, List.length_nil]; omega) (fun cx hcx hrd => ats_of ?_); simp only [argSlots, Nat.zero_add, Nat.reduceAdd]
 refine gB ?_
 refine gC fun K hK => ?_
 refine fcall_data (hbig) (by first | rfl | simp only [areData, Aw.isData, areData_bsV, Bool.and_true]) ?_; simp only [go_sem, seval]
 refine hK _ ?_; clear hK K
 (repeat refine ats_seq ?_); refine ats_no rfl trivial ?_
 refine ats_skip ?_
 refine gC fun K hK => ?_
 refine fcall_data (hD) (by first | rfl | simp only [areData, Aw.isData, areData_bsV, Bool.and_true]) ?_; simp only [go_sem, seval]
 refine hK _ ?_; clear hK K
 refine gC fun K hK => ?_
 first | refine fcall_fresh rfl (k1) ?_ | refine YR_intro (acall_fresh rfl (k1)) ?_
 simp only [go_sem, seval]
 refine hK _ ?_; clear hK K
 refine gC fun K hK => ?_
 first | refine fcall_fresh rfl (k2) ?_ | refine YR_intro (acall_fresh rfl (k2)) ?_
 simp only [go_sem, seval]
 refine hK _ ?_; clear hK K
 (repeat refine ats_seq ?_); refine AT.ghost (st' := ⟨[(0, .lv (bsV c)), (2, .bool false), (3, .bptr 5 0), (4, .l1 L), (5, .int cs), (6, .l1 L), (7, .int cs)], [(5, .bx [.l3 t])]⟩) (ghost_trans (ghost_drop []) (ghost_can [(0, 5)] (by simp only [killL, killA, killAs, killAs_bsV, qOf, rmT, killH, killT, List.filter_cons, List.filter_nil, List.contains_cons, List.contains_nil, Bool.or_false, Bool.or_true, Bool.false_and, Bool.not_true, Bool.not_false, Bool.false_eq_true, if_true, if_false, rnLs, rnL, rn, rns, rns_bsV, sw, SlotsLe, St.get, slotGet, List.map_cons, List.map_nil, seval, AV.int.injEq, AV.bool.injEq, AV.l1.injEq, AV.l2.injEq, AV.l3.injEq, true_and, and_true]) (by simp only [killL, killA, killAs, killAs_bsV, qOf, rmT, killH, killT, List.filter_cons, List.filter_nil, List.contains_cons, List.contains_nil, Bool.or_false, Bool.or_true, Bool.false_and, Bool.not_true, Bool.not_false, Bool.false_eq_true, if_true, if_false, sortH, insH, rnHs, rnH, rnT, rn, rns, rns_bsV, sw, List.map_cons, List.map_nil, seval]))) ?_
 refine gC fun K hK => ?_
 first | refine YR_intro (fun _ => acall_free rfl rfl (kl)) ?_ | refine YR_intro (acall_free rfl rfl (kl)) ?_
 simp only [go_sem, seval]
 refine hK _ ?_; clear hK K
 refine gI (fun h1 => ?_) fun h1 => ?_
 ·simp at h1
 refine ats_skip ?_
 refine gC fun K hK => ?_
 first | refine fcall_data (n1) rfl ?_ | refine YR_intro (acall_data (n1) rfl) ?_
 simp only [go_sem, seval]
 refine hK _ ?_; clear hK K
 refine gC fun K hK => ?_
 first | refine fcall_data (n2) rfl ?_ | refine YR_intro (acall_data (n2) rfl) ?_
 simp only [go_sem, seval]
 refine hK _ ?_; clear hK K
 refine gA ?_
 refine gI (fun h2 => ?_) fun h2 => ?_
 ·simp at h2
 refine ats_skip ?_
 (repeat refine ats_seq ?_); refine AT.ghost (st' := ⟨[(0, .lv (bsV c)), (2, .bool false), (3, .bptr 5 0), (4, .l1 L), (5, .int cs), (8, .int np.1), (9, .int np.2)], [(5, .bx [.l3 t])]⟩) (ghost_trans (ghost_drop []) (ghost_can [] (by simp only [killL, killA, killAs, killAs_bsV, qOf, rmT, killH, killT, List.filter_cons, List.filter_nil, List.contains_cons, List.contains_nil, Bool.or_false, Bool.or_true, Bool.false_and, Bool.not_true, Bool.not_false, Bool.false_eq_true, if_true, if_false, rnLs, rnL, rn, rns, rns_bsV, sw, SlotsLe, St.get, slotGet, List.map_cons, List.map_nil, seval, AV.int.injEq, AV.bool.injEq, AV.l1.injEq, AV.l2.injEq, AV.l3.injEq, true_and, and_true]) (by simp only [killL, killA, killAs, killAs_bsV, qOf, rmT, killH, killT, List.filter_cons, List.filter_nil, List.contains_cons, List.contains_nil, Bool.or_false, Bool.or_true, Bool.false_and, Bool.not_true, Bool.not_false, Bool.false_eq_true, if_true, if_false, sortH, insH, rnHs, rnH, rnT, rn, rns, rns_bsV, sw, List.map_cons, List.map_nil, seval]))) ?_
 refine gA ?_
 (repeat refine ats_seq ?_)
 refine ats_upto ⟨[(0, .lv (bsV c)), (2, .bool false)], [(5, .bx [.l3 t])]⟩ ?_ ?_
 ·cases hr : isRing t with
  | false =>
   unfold seR at ecs
   rw [hr] at ecs
   have ecs : (1 : Int) = cs := ecs
   refine gI (fun h3 => ?_) fun h3 => ?_
   ·omega
   refine ats_skip ?_
   refine ats_nil ?_; refine Or.inl ⟨rfl, ghost_trans (ghost_drop []) (ghost_can [] (by simp only [killL, killA, killAs, killAs_bsV, qOf, rmT, killH, killT, List.filter_cons, List.filter_nil, List.contains_cons, List.contains_nil, Bool.or_false, Bool.or_true, Bool.false_and, Bool.not_true, Bool.not_false, Bool.false_eq_true, if_true, if_false, rnLs, rnL, rn, rns, rns_bsV, sw, SlotsLe, St.get, slotGet, List.map_cons, List.map_nil, seval, AV.int.injEq, AV.bool.injEq, AV.l1.injEq, AV.l2.injEq, AV.l3.injEq, true_and, and_true]) (by simp only [killL, killA, killAs, killAs_bsV, qOf, rmT, killH, killT, List.filter_cons, List.filter_nil, List.contains_cons, List.contains_nil, Bool.or_false, Bool.or_true, Bool.false_and, Bool.not_true, Bool.not_false, Bool.false_eq_true, if_true, if_false, sortH, insH, rnHs, rnH, rnT, rn, rns, rns_bsV, sw, List.map_cons, List.map_nil, seval]))⟩
  | true =>
   have h := isRing_P hr
   have h16 := h.cube.2.1
   have h2p := p16 h16
   have h0p := Nat.pow_pos (n := t.length) (show 0 < 2 by decide)
   unfold seR at ecs eL
   unfold npR at enp
   unfold adR at a1
   rw [hr] at ecs eL enp a1
   simp only [if_true] at ecs eL enp a1
   subst ecs
   have eL : toI (serL t) = L := eL
   obtain ⟨f1, f2, f3, f4⟩ := ser_facts h (f := 2 ^ t.length - 1) (full_clos h)
   have fl : (serL t).length ≤ 2 ^ t.length - 1 + 1 := ser_len
   have lL : L.length = (serL t).length := by rw [← eL, toI_len]
   have gL : ∀ k, k < (serL t).length → L.getD k 0 = (((serL t).getD k 0 : Nat) : Int) := fun k hk => by rw [← eL, toI_get hk]
   have fb : ∀ k, k < (serL t).length → (serL t).getD k 0 < 2 ^ t.length := fun k hk => (f1 _ (getD_mem hk)).lt
   have fs : ∀ k, k + 1 < (serL t).length → (serL t).getD (k + 1) 0 &&& (serL t).getD k 0 = (serL t).getD (k + 1) 0 := fun k hk => by
    have e := (f4 k hk).1
    have hsub : Sub ((serL t).getD (k + 1) 0) ((serL t).getD k 0) := by
     have : (serL t).getD (k + 1) 0 = nextS t ((serL t).getD k 0) := e
     rw [this]; exact imS_sub
    exact bits_ext fun i => by rw [and_bit]; exact ⟨fun h => h.1, fun h => ⟨h, hsub i h⟩⟩
   have f5 : 1 < (serL t).length → (serL t).getD 1 0 = adj t := fun hk => by
    have e := (f4 0 hk).1
    have e2 : (serL t).getD 1 0 = nextS t ((serL t).getD 0 0) := e
    rw [e2]
    have e3 : (serL t).getD 0 0 = 2 ^ t.length - 1 := f2
    rw [e3, nextS_full h]
   have f4 : ∀ k, k + 1 < (serL t).length → (serL t).getD (k + 1) 0 ≠ (serL t).getD k 0 := fun k hk => (f4 k hk).2
   have f3 : 0 < (serL t).length := f3
   have f2 : (serL t).getD 0 0 = 2 ^ t.length - 1 := f2
   generalize serL t = S at *
   have esh := shl1 (i := t.length) (by omega)
   (repeat refine ats_seq ?_); refine ats_yes rfl trivial ?_
   have e0 : decide (((2 ^ t.length - 1 : Nat) : Int) = ((2 ^ t.length : Nat) : Int) - 1) = true := decide_eq_true (by omega)
   have eLast := gL (S.length - 1) (by omega)
   have e9 : ((S.length : Int) - 1) = ((S.length - 1 : Nat) : Int) := by omega
   (repeat refine ats_seq ?_)
   refine ats_upto ⟨[(0, .lv (bsV c)), (2, .bool false), (3, .bptr 5 0), (4, .l1 L), (97, .bool false)], [(5, .bx [.l3 t])]⟩ ?_ ?_
   ·by_cases hl : S.getD (S.length - 1) 0 = 1
    ·rw [if_pos hl] at enp
     have e1 : decide (L.getD (S.length - 1) 0 = 1) = true := by rw [eLast]; first | exact decide_eq_true (by omega) | exact decide_eq_false (by omega)
     subst enp
     (repeat refine ats_seq ?_); refine ats_pick (fix0 hcx) mixed (by kernel_rfl) fun K hK => ?_; simp only [go_sem, seval]
     rw [esh, lL, e9]
     try simp only [Int.toNat_natCast]
     rw [gL 0 f3, f2]
     simp only [e0, e1, decide_true, decide_false, Bool.not_true, Bool.not_false, Bool.true_and, Bool.and_true, Bool.and_false, Bool.false_and, Bool.or_false, Bool.false_or, Bool.true_or, beq_self_eq_true, Bool.true_beq, Bool.false_beq, and_true, true_and, forall_const, Bool.false_eq_true, false_implies]
     (repeat refine aI (hb := ?_))
     refine hK _ ?_; clear hK K
     refine ats_nil ?_; refine Or.inl ⟨rfl, ghost_trans (ghost_drop []) (ghost_can [] (by simp only [killL, killA, killAs, killAs_bsV, qOf, rmT, killH, killT, List.filter_cons, List.filter_nil, List.contains_cons, List.contains_nil, Bool.or_false, Bool.or_true, Bool.false_and, Bool.not_true, Bool.not_false, Bool.false_eq_true, if_true, if_false, rnLs, rnL, rn, rns, rns_bsV, sw, SlotsLe, St.get, slotGet, List.map_cons, List.map_nil, seval, AV.int.injEq, AV.bool.injEq, AV.l1.injEq, AV.l2.injEq, AV.l3.injEq, true_and, and_true]) (by simp only [killL, killA, killAs, killAs_bsV, qOf, rmT, killH, killT, List.filter_cons, List.filter_nil, List.contains_cons, List.contains_nil, Bool.or_false, Bool.or_true, Bool.false_and, Bool.not_true, Bool.not_false, Bool.false_eq_true, if_true, if_false, sortH, insH, rnHs, rnH, rnT, rn, rns, rns_bsV, sw, List.map_cons, List.map_nil, seval]))⟩
    ·rw [if_neg hl] at enp
     have e1 : decide (L.getD (S.length - 1) 0 = 1) = false := by rw [eLast]; first | exact decide_eq_true (by omega) | exact decide_eq_false (by omega)
     subst enp
     (repeat refine ats_seq ?_); refine ats_pick (fix0 hcx) mixed (by kernel_rfl) fun K hK => ?_; simp only [go_sem, seval]
     rw [esh, lL, e9]
     try simp only [Int.toNat_natCast]
     rw [gL 0 f3, f2]
     simp only [e0, e1, decide_true, decide_false, Bool.not_true, Bool.not_false, Bool.true_and, Bool.and_true, Bool.and_false, Bool.false_and, Bool.or_false, Bool.false_or, Bool.true_or, beq_self_eq_true, Bool.true_beq, Bool.false_beq, and_true, true_and, forall_const, Bool.false_eq_true, false_implies]
     (repeat refine aI (hb := ?_))
     refine hK _ ?_; clear hK K
     refine ats_nil ?_; refine Or.inl ⟨rfl, ghost_trans (ghost_drop []) (ghost_can [] (by simp only [killL, killA, killAs, killAs_bsV, qOf, rmT, killH, killT, List.filter_cons, List.filter_nil, List.contains_cons, List.contains_nil, Bool.or_false, Bool.or_true, Bool.false_and, Bool.not_true, Bool.not_false, Bool.false_eq_true, if_true, if_false, rnLs, rnL, rn, rns, rns_bsV, sw, SlotsLe, St.get, slotGet, List.map_cons, List.map_nil, seval, AV.int.injEq, AV.bool.injEq, AV.l1.injEq, AV.l2.injEq, AV.l3.injEq, true_and, and_true]) (by simp only [killL, killA, killAs, killAs_bsV, qOf, rmT, killH, killT, List.filter_cons, List.filter_nil, List.contains_cons, List.contains_nil, Bool.or_false, Bool.or_true, Bool.false_and, Bool.not_true, Bool.not_false, Bool.false_eq_true, if_true, if_false, sortH, insH, rnHs, rnH, rnT, rn, rns, rns_bsV, sw, List.map_cons, List.map_nil, seval]))⟩
   (repeat refine ats_seq ?_); refine ats_no rfl trivial ?_
   refine ats_skip ?_
   refine gA ?_
   (repeat refine ats_seq ?_)
   refine ats_upto ⟨[(0, .lv (bsV c)), (2, .bool false), (4, .l1 L)], [(5, .bx [.l3 t])]⟩ ?_ ?_
   ·refine gI (fun hg => ?_) fun hg => ?_
    ·have g1 := gL 1 (by omega)
     have g2 := f5 (by omega)
     rw [g2] at g1
     refine gC fun K hK => ?_
     first | refine fcall_data (a1) rfl ?_ | refine YR_intro (acall_data (a1) rfl) ?_
     simp only [go_sem, seval]
     refine hK _ ?_; clear hK K
     refine gC fun K hK => ?_
     rw [g1]
     simp only [decide_true, Bool.not_true, Bool.not_false, Bool.or_false, Bool.false_or, forall_const]
     (repeat refine aI (hb := ?_))
     refine hK _ ?_; clear hK K
     (repeat refine ats_seq ?_); refine ats_no rfl trivial ?_
     refine ats_skip ?_
     refine ats_nil ?_; refine Or.inl ⟨rfl, ghost_trans (ghost_drop []) (ghost_can [] (by simp only [killL, killA, killAs, killAs_bsV, qOf, rmT, killH, killT, List.filter_cons, List.filter_nil, List.contains_cons, List.contains_nil, Bool.or_false, Bool.or_true, Bool.false_and, Bool.not_true, Bool.not_false, Bool.false_eq_true, if_true, if_false, rnLs, rnL, rn, rns, rns_bsV, sw, SlotsLe, St.get, slotGet, List.map_cons, List.map_nil, seval, AV.int.injEq, AV.bool.injEq, AV.l1.injEq, AV.l2.injEq, AV.l3.injEq, true_and, and_true]) (by simp only [killL, killA, killAs, killAs_bsV, qOf, rmT, killH, killT, List.filter_cons, List.filter_nil, List.contains_cons, List.contains_nil, Bool.or_false, Bool.or_true, Bool.false_and, Bool.not_true, Bool.not_false, Bool.false_eq_true, if_true, if_false, sortH, insH, rnHs, rnH, rnT, rn, rns, rns_bsV, sw, List.map_cons, List.map_nil, seval]))⟩
    ·refine ats_skip ?_
     refine ats_nil ?_; refine Or.inl ⟨rfl, ghost_trans (ghost_drop []) (ghost_can [] (by simp only [killL, killA, killAs, killAs_bsV, qOf, rmT, killH, killT, List.filter_cons, List.filter_nil, List.contains_cons, List.contains_nil, Bool.or_false, Bool.or_true, Bool.false_and, Bool.not_true, Bool.not_false, Bool.false_eq_true, if_true, if_false, rnLs, rnL, rn, rns, rns_bsV, sw, SlotsLe, St.get, slotGet, List.map_cons, List.map_nil, seval, AV.int.injEq, AV.bool.injEq, AV.l1.injEq, AV.l2.injEq, AV.l3.injEq, true_and, and_true]) (by simp only [killL, killA, killAs, killAs_bsV, qOf, rmT, killH, killT, List.filter_cons, List.filter_nil, List.contains_cons, List.contains_nil, Bool.or_false, Bool.or_true, Bool.false_and, Bool.not_true, Bool.not_false, Bool.false_eq_true, if_true, if_false, sortH, insH, rnHs, rnH, rnT, rn, rns, rns_bsV, sw, List.map_cons, List.map_nil, seval]))⟩
   refine gA ?_
   (repeat refine ats_seq ?_); refine ats_loop (fun k : Nat => ⟨[(0, .lv (bsV c)), (2, .bool false), (4, .l1 L), (14, .int k)], [(5, .bx [.l3 t])]⟩) (fun k => 1 ≤ k ∧ k ≤ S.length) (fun k => S.length - k) 1 ⟨Nat.le_refl _, f3⟩ (by
    refine And.intro ?_ rfl; simp only [leS, Nat.reduceEqDiff, ↓reduceIte, true_and, and_true]
    rfl) (fun k hk => ?_)
   refine gA ?_
   refine gI (fun hlk => ?_) fun hlk => ?_
   ·have g1 := gL k (by omega)
    have g2 := gL (k - 1) (by omega)
    have b1 := fb k (by omega)
    have b2 := fb (k - 1) (by omega)
    have s1 := fs (k - 1) (by omega)
    have s2 := f4 (k - 1) (by omega)
    rw [show k - 1 + 1 = k by omega] at s1 s2
    have ea := andS (full_in h16 b1) (full_in h16 b2)
    rw [s1] at ea
    have e8 : ((k : Int) - 1) = ((k - 1 : Nat) : Int) := by omega
    have e1 : decide (((S.getD k 0 : Nat) : Int) = ((S.getD (k - 1) 0 : Nat) : Int)) = false := decide_eq_false (by omega)
    refine ats_skip ?_
    (repeat refine ats_seq ?_); refine ats_block ?_
    (repeat refine ats_seq ?_); refine ats_pick (fix0 hcx) mixed (by kernel_rfl) fun K hK => ?_; simp only [go_sem, seval]
    rw [e8]
    try simp only [Int.toNat_natCast]
    simp only [g1, g2, ea, e1, decide_true, Bool.not_true, Bool.not_false, Bool.false_or, forall_const]
    (repeat refine aI (hb := ?_))
    refine hK _ ?_; clear hK K
    (repeat refine ats_seq ?_); refine ats_no rfl trivial ?_
    refine ats_skip ?_
    refine gB ?_
    refine ⟨k + 1,  ⟨by omega, by omega⟩, by omega, .inl ⟨by simp only [leS, Nat.reduceEqDiff, ↓reduceIte, true_and, and_true]; omega,  rfl⟩⟩
   ·refine ats_exit (lq_x ?_)
    refine ats_nil ?_; refine Or.inl ⟨rfl, ghost_trans (ghost_drop []) (ghost_can [] (by simp only [killL, killA, killAs, killAs_bsV, qOf, rmT, killH, killT, List.filter_cons, List.filter_nil, List.contains_cons, List.contains_nil, Bool.or_false, Bool.or_true, Bool.false_and, Bool.not_true, Bool.not_false, Bool.false_eq_true, if_true, if_false, rnLs, rnL, rn, rns, rns_bsV, sw, SlotsLe, St.get, slotGet, List.map_cons, List.map_nil, seval, AV.int.injEq, AV.bool.injEq, AV.l1.injEq, AV.l2.injEq, AV.l3.injEq, true_and, and_true]) (by simp only [killL, killA, killAs, killAs_bsV, qOf, rmT, killH, killT, List.filter_cons, List.filter_nil, List.contains_cons, List.contains_nil, Bool.or_false, Bool.or_true, Bool.false_and, Bool.not_true, Bool.not_false, Bool.false_eq_true, if_true, if_false, sortH, insH, rnHs, rnH, rnT, rn, rns, rns_bsV, sw, List.map_cons, List.map_nil, seval]))⟩
 ·obtain ⟨C, eC⟩ : ∃ C, (coR z x).1.getD [] = C := ⟨_, rfl⟩
  obtain ⟨cc, ecc⟩ : ∃ cc, (coR z x).2 = cc := ⟨_, rfl⟩
  rw [eC] at c1 c2 kc
  rw [ecc] at c1 c2
  refine gC fun K hK => ?_
  refine fcall_data (hE) (by first | rfl | simp only [areData, Aw.isData, areData_bsV, Bool.and_true]) ?_; simp only [go_sem, seval]
  refine hK _ ?_; clear hK K
  refine gC fun K hK => ?_
  first | refine fcall_fresh rfl (c1) ?_ | refine YR_intro (acall_fresh rfl (c1)) ?_
  simp only [go_sem, seval]
  refine hK _ ?_; clear hK K
  refine gC fun K hK => ?_
  first | refine fcall_fresh rfl (c2) ?_ | refine YR_intro (acall_fresh rfl (c2)) ?_
  simp only [go_sem, seval]
  refine hK _ ?_; clear hK K
  refine gC fun K hK => ?_
  first | refine YR_intro (fun _ => acall_free rfl rfl (kc)) ?_ | refine YR_intro (acall_free rfl rfl (kc)) ?_
  simp only [go_sem, seval]
  refine hK _ ?_; clear hK K
  refine gI (fun h5 => ?_) fun h5 => ?_
  ·simp at h5
  refine ats_skip ?_
  refine gA ?_
  by_cases hsc : scA z x = 0
  ·obtain ⟨hr, hx0, hlt, ex⟩ := scA_ok hsc
   by_cases hC : ClosP z x.toNat
   ·have e : coR z x = (some (clsL z.length (CoR z x.toNat)), 0) := by unfold coR; rw [if_pos hsc, if_pos (bd_true hC)]
    rw [e] at eC ecc
    have eC : clsL z.length (CoR z x.toNat) = C := eC
    have ecc : (0 : Int) = cc := ecc
    subst ecc
    have h := isRing_P hr
    have hE2 := co_eqv h hC
    have lC : C.length = z.length := by rw [← eC, clsL_len]
    have gCl : ∀ k, k < z.length → C.getD k 0 = (num (CoR z x.toNat) k : Nat) := fun k hk => by rw [← eC, clsL_get hk]
    (repeat refine ats_seq ?_); refine ats_no rfl trivial ?_
    refine ats_skip ?_
    refine gA ?_
    (repeat refine ats_seq ?_); refine AT.ghost (st' := ⟨[(2, .bool false), (16, .int x), (17, .l1 C), (21, .int 0)], []⟩) (ghost_trans (ghost_drop [5, 6]) (ghost_can [] (by simp only [killL, killA, killAs, killAs_bsV, qOf, rmT, killH, killT, List.filter_cons, List.filter_nil, List.contains_cons, List.contains_nil, Bool.or_false, Bool.or_true, Bool.false_and, Bool.not_true, Bool.not_false, Bool.false_eq_true, if_true, if_false, rnLs, rnL, rn, rns, rns_bsV, sw, SlotsLe, St.get, slotGet, List.map_cons, List.map_nil, seval, AV.int.injEq, AV.bool.injEq, AV.l1.injEq, AV.l2.injEq, AV.l3.injEq, true_and, and_true]) (by simp only [killL, killA, killAs, killAs_bsV, qOf, rmT, killH, killT, List.filter_cons, List.filter_nil, List.contains_cons, List.contains_nil, Bool.or_false, Bool.or_true, Bool.false_and, Bool.not_true, Bool.not_false, Bool.false_eq_true, if_true, if_false, sortH, insH, rnHs, rnH, rnT, rn, rns, rns_bsV, sw, List.map_cons, List.map_nil, seval]))) ?_
    (repeat refine ats_seq ?_); refine ats_loop (fun k : Nat => ⟨[(2, .bool false), (16, .int x), (17, .l1 C), (21, .int k)], []⟩) (fun k => k ≤ z.length) (fun k => z.length - k) 0 (Nat.zero_le _) (by refine And.intro ?_ rfl; simp only [leS, Nat.reduceEqDiff, ↓reduceIte, true_and, and_true]; repeat' (first | rfl | with_reducible refine And.intro ?_ ?_ | omega)) (fun k hk => ?_)
    refine gA ?_
    refine gI (fun hlk => ?_) fun hlk => ?_
    ·have g1 := gCl k (by omega)
     have eb : andI (shrI x ((k : Int) % 18446744073709551616)) 1 = if x.toNat.testBit k then 1 else 0 := by
      have := bit_get (a := x.toNat) (k := k) (by have := full_in h.cube.2.1 hlt; omega) (by omega)
      rw [ex] at this
      rw [show (k : Int) % 18446744073709551616 = (k : Int) by omega]
      exact this
     have en : num (CoR z x.toNat) k = 0 ↔ x.toNat.testBit k = true := (hE2.num_zero (by omega)).trans (co_zero h hC (by omega))
     refine ats_skip ?_
     (repeat refine ats_seq ?_); refine ats_block ?_
     refine gC fun K hK => ?_
     rw [g1, eb]
     (repeat refine aI (hb := ?_))
     refine hK _ ?_; clear hK K
     refine gI (fun h7 => ?_) fun h7 => ?_
     ·exfalso
      cases hbit : x.toNat.testBit k with
      | true =>
       rw [hbit] at h7 en
       have := en.2 rfl
       simp [this] at h7
      | false =>
       rw [hbit] at h7 en
       have : num (CoR z x.toNat) k ≠ 0 := fun e => Bool.false_ne_true (en.1 e)
       simp [this] at h7
     ·refine ats_skip ?_
      refine gB ?_
      refine ⟨k + 1,  by omega, by omega, .inl ⟨by simp only [leS, Nat.reduceEqDiff, ↓reduceIte, true_and, and_true]; omega,  rfl⟩⟩
    ·refine ats_exit (lq_x ?_)
     refine gA ?_
     refine ats_ret (finB rfl ?_)
     rfl
   ·have e : coR z x = (none, 5) := by unfold coR; rw [if_pos hsc, if_neg (fun hb => hC (bd_iff.1 hb))]
    rw [e] at eC ecc
    have eC : [] = C := eC
    have ecc : (5 : Int) = cc := ecc
    subst ecc eC
    (repeat refine ats_seq ?_); refine ats_yes rfl trivial ?_
    refine gA ?_
    refine ats_ret (finB rfl ?_)
    rfl
  ·have e : coR z x = (none, scA z x) := by unfold coR; rw [if_neg hsc]
   rw [e] at eC ecc
   have eC : [] = C := eC
   have ecc : scA z x = cc := ecc
   subst eC
   refine gI (fun h6 => ?_) fun h6 => ?_
   ·refine gA ?_
    refine ats_ret (finB rfl ?_)
    rfl
   ·exact (hsc (by first | omega | (simp at h6; omega))).elim
end Go.Proofs.YtfnokakbdehlgaaDoor
