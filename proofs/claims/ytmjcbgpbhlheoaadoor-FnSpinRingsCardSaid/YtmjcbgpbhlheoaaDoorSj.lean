import Derived.Test.YtmjcbgpbhlheoaaDoorSz1
import Derived.Test.YtmjcbgpbhlheoaaDoorRz1
import Derived.Test.YtmjcbgpbhlheoaaDoorJz3
import Derived.Test.YtmjcbgpbhlheoaaDoorBb
set_option linter.unusedSimpArgs false
set_option linter.unusedVariables false
namespace Go.Proofs.YtmjcbgpbhlheoaaDoor
open Go Go.Aw Go.Pl
theorem id_any (t : Cu) : FreshCall Tryd.prog 17 [.agg [.l3 t]] (.tup [.l1 ((idR t).1.getD []), .int (idR t).2]) := by
 have h := implId_ok t
 generalize (idR t).2 = c at *
 generalize (idR t).1 = u at *
 cases u with
 | none => exact fresh_nil h
 | some u => exact h
theorem id_yes {t : Cu} (h : RingP t) {d : Nat → Int} (hd : DimF t d) : idR t = (some (dnL t), 0) ∧ ∀ k, k < t.length → (dnL t).getD k 0 = d k := by
 have hb := (both_find h hd).1
 refine ⟨?_, hb⟩
 unfold idR
 rw [h.faults, if_pos rfl, bd_true (dimP_of hd hb), if_pos rfl]
theorem id_no {t : Cu} (h : RingP t) (hd : ¬ ∃ d, DimF t d) : idR t = (none, 4) := by
 unfold idR
 rw [h.faults, if_pos rfl, if_neg]
 exact fun hb => hd ⟨_, (bd_iff.1 hb).toF⟩
theorem id_prod {x y : Cu} (hx : RingP x) (hy : RingP y) (hp : RingP (krR x y x.length y.length)) :
  ((idR (krR x y x.length y.length)).2 = 0 ↔ (idR x).2 = 0 ∧ (idR y).2 = 0) ∧
  ((idR (krR x y x.length y.length)).1.getD []).length ≤ 16 ∧
  ∀ i, i < ((idR (krR x y x.length y.length)).1.getD []).length → 0 < ((idR y).1.getD []).length ∧ i / ((idR y).1.getD []).length < ((idR x).1.getD []).length ∧
   i % ((idR y).1.getD []).length < ((idR y).1.getD []).length ∧
   ((idR (krR x y x.length y.length)).1.getD []).getD i 0 = ((idR x).1.getD []).getD (i / ((idR y).1.getD []).length) 0 * ((idR y).1.getD []).getD (i % ((idR y).1.getD []).length) 0 ∧
   0 ≤ ((idR (krR x y x.length y.length)).1.getD []).getD i 0 ∧ ((idR (krR x y x.length y.length)).1.getD []).getD i 0 ≤ 16000 := by
 by_cases h1 : (∃ d, DimF x d) ∧ ∃ d, DimF y d
 ·obtain ⟨⟨a, ha⟩, b, hb⟩ := h1
  obtain ⟨ex, vx⟩ := id_yes hx ha
  obtain ⟨ey, vy⟩ := id_yes hy hb
  obtain ⟨ep, vp⟩ := id_yes hp (dim_both ha hb)
  have lx := (dnL_bd hx).1
  have ly := (dnL_bd hy).1
  have lp := (dnL_bd hp).1
  have lk : (krR x y x.length y.length).length = x.length * y.length := krR_length
  have sm := dn_small hp (dimP_of (dim_both ha hb) vp)
  have h16 := hp.cube.2.1
  have hy0 := hy.pos
  rw [ex, ey, ep]
  dsimp only [Option.getD_some]
  refine ⟨⟨fun _ => ⟨rfl, rfl⟩, fun _ => rfl⟩, by omega, fun i hi => ?_⟩
  rw [lp] at hi
  have s1 := sm i hi
  rw [lk] at hi
  obtain ⟨i1, i2⟩ := dm_lt hi
  rw [ly, lx]
  refine ⟨hy0, i1, i2, ?_, by omega, by omega⟩
  rw [vp i (by rw [lk]; exact hi), vx _ i1, vy _ i2]
 ·have hnp : ¬ ∃ d, DimF (krR x y x.length y.length) d := fun ⟨d, hd⟩ => h1 ⟨⟨_, dim_fst hx hy hd⟩, _, dim_snd hx hy hd⟩
  rw [id_no hp hnp]
  refine ⟨⟨fun h => absurd h (by decide), fun ⟨h2, h3⟩ => ?_⟩, by decide, fun i hi => absurd hi (Nat.not_lt_zero i)⟩
  refine absurd ⟨?_, ?_⟩ h1
  ·refine Classical.byContradiction fun hn => ?_
   rw [id_no hx hn] at h2
   exact absurd h2 (by decide)
  ·refine Classical.byContradiction fun hn => ?_
   rw [id_no hy hn] at h3
   exact absurd h3 (by decide)
theorem pr_facts {x y : Cu} (h : (prR x y).2 = 0) : isRing x = true ∧ isRing y = true ∧ (prR x y).1 = krR x y x.length y.length ∧ RingP (krR x y x.length y.length) := by
 unfold prR at h ⊢
 by_cases h1 : isRing x = true ∧ isRing y = true
 ·rw [if_pos h1] at h ⊢
  by_cases h2 : x.length * y.length ≤ 16
  ·rw [if_pos h2] at h ⊢
   by_cases h3 : bd (Cube (krR x y x.length y.length)) = true
   ·rw [if_pos h3]
    exact ⟨h1.1, h1.2, rfl, (isRing_P h1.1).prod (isRing_P h1.2) (bd_iff.1 h3)⟩
   ·rw [if_neg h3] at h
    exact absurd h (by decide)
  ·rw [if_neg h2] at h
   exact absurd h (by decide)
 ·rw [if_neg h1] at h
  exact absurd h (by decide)
theorem pr_empty {x y : Cu} (h : ¬ (prR x y).2 = 0) : (prR x y).1 = [] := by
 unfold prR at h ⊢
 split
 ·rename_i h1
  rw [if_pos h1] at h
  split
  ·rename_i h2
   rw [if_pos h2] at h
   split
   ·rename_i h3
    rw [if_pos h3] at h
    exact absurd rfl h
   ·rfl
  ·rfl
 ·rfl
theorem sp1_facts {k : Int} (h : (spR1 k).2 = 0) : ∃ m : Nat, k = m ∧ m ≤ 15 ∧ spR1 k = (spnT m 1, 0) ∧ spR2 k = (spnT m 2, 0) ∧ isRing (spnT m 1) = true := by
 unfold spR1 at h
 by_cases hk : 0 ≤ k ∧ k ≤ 15
 ·obtain ⟨m, rfl⟩ : ∃ m : Nat, k = m := ⟨k.toNat, by omega⟩
  refine ⟨m, rfl, by omega, ?_, ?_, ?_⟩
  ·unfold spR1; rw [if_pos hk]; rfl
  ·unfold spR2; rw [if_pos (by omega)]; rfl
  ·rw [spnT_one]; exact (sp_ringP (by omega)).faults
 ·rw [if_neg hk] at h
  exact absurd h (by decide)
theorem sp2_facts {k : Int} (h : (spR2 k).2 = 0) : isRing (spR2 k).1 = true := by
 unfold spR2 at h ⊢
 by_cases hk : 0 ≤ k ∧ k ≤ 31
 ·rw [if_pos hk]
  show isRing (spnT k.toNat 2) = true
  rw [spnT_two]
  exact (ev_ringP (by omega)).faults
 ·rw [if_neg hk] at h
  exact absurd h (by decide)
theorem evS_small : ∀ q, q ≤ 8 → evS q < 65536 := by decide
set_option maxRecDepth 100000 in
set_option maxHeartbeats 4000000 in
theorem fnSpinRings_ok (c : List Int) (hb : ByteOk c) : PureCall Tryd.prog 3 [.lv (bsV c)] (.bool true) := by
 have hbig := big_ok c
 by_cases hlen : 4096 < c.length
 ·rw [decide_eq_true hlen] at hbig
  refine PureCall.intro (n := 212) (rs := [.tmp 2]) Tryd.call3 Tryd.func3 rfl rfl rfl (by simp only [List.length_cons, List.length_nil]; omega) (fun cx hcx => ats_of ?_); simp only [argSlots, Nat.zero_add, Nat.reduceAdd]
  refine gB ?_
  refine gC fun K hK => ?_
  refine fcall_data (hbig) (by first | rfl | simp only [areData, Aw.isData, areData_bsV, Bool.and_true]) ?_; simp only [go_sem, seval]
  refine hK _ ?_; clear hK K
  (repeat refine ats_seq ?_); refine ats_yes rfl trivial ?_
  refine gB ?_
  refine ats_ret (finB rfl ?_)
  rfl
 ·rw [decide_eq_false hlen] at hbig
  have hc : CodeOk c := ⟨by omega, hb⟩
  obtain ⟨k, k0, k16, hD1⟩ := DrawSpinRing_ok c hc
  obtain ⟨m, m0, m32, hD2⟩ := DrawEvenSpinRing_ok c hc
  obtain ⟨x, y, lx5, ly4, hD3⟩ := DrawProductRing_ok c hc
  have a1 := implSpin_ok k
  have a2 := specSpin_ok k
  have a3 := @sp1_facts k
  have a4 := implEven_ok k
  have b1 := implEven_ok m
  have b2 := specEven_ok m
  have b3 := @sp2_facts m
  have d1 := implPr_ok x y
  have d2 := specPr_ok x y
  have d3 := @pr_facts x y
  have d4 := @pr_empty x y
  have r1 := ring9_ok (spR1 k).1 (spR1 k).1
  have r2 := ring9_ok (spR2 m).1 (spR2 m).1
  have r3 := ring9_ok (prR x y).1 (prR x y).1
  rw [decide_eq_true rfl] at r1 r2 r3
  have i2 := IsRing_ok (spR2 m).1
  generalize spR2 m = B at *
  obtain ⟨T2, c2⟩ := B
  generalize prR x y = D at *
  obtain ⟨T3, c3⟩ := D
  dsimp only at *
  refine PureCall.intro (n := 212) (rs := [.tmp 2]) Tryd.call3 Tryd.func3 rfl rfl rfl (by simp only [List.length_cons, List.length_nil]; omega) (fun cx hcx => ats_of ?_); simp only [argSlots, Nat.zero_add, Nat.reduceAdd]
  refine gB ?_
  refine gC fun K hK => ?_
  refine fcall_data (hbig) (by first | rfl | simp only [areData, Aw.isData, areData_bsV, Bool.and_true]) ?_; simp only [go_sem, seval]
  refine hK _ ?_; clear hK K
  (repeat refine ats_seq ?_); refine ats_no rfl trivial ?_
  refine ats_skip ?_
  refine gC fun K hK => ?_
  refine fcall_data (hD1) (by first | rfl | simp only [areData, Aw.isData, areData_bsV, Bool.and_true]) ?_; simp only [go_sem, seval]
  refine hK _ ?_; clear hK K
  refine gC fun K hK => ?_
  first | refine fcall_data (a1) rfl ?_ | refine YR_intro (acall_data (a1) rfl) ?_
  simp only [go_sem, seval]
  refine hK _ ?_; clear hK K
  refine gC fun K hK => ?_
  first | refine fcall_data (a2) rfl ?_ | refine YR_intro (acall_data (a2) rfl) ?_
  simp only [go_sem, seval]
  refine hK _ ?_; clear hK K
  (repeat refine ats_seq ?_); refine ats_go (fix0 hcx) fun K hK => ?_; simp only [go_sem, seval, decide_true, Bool.not_true]
  first | refine YR_intro (fun _ => acall_data (r1) rfl) ?_ | refine YR_intro (acall_data (r1) rfl) ?_
  simp only [go_sem, seval]
  refine hK _ ?_; clear hK K
  (repeat refine ats_seq ?_); refine ats_no rfl trivial ?_
  refine ats_skip ?_
  refine gC fun K hK => ?_
  refine fcall_data (hD2) (by first | rfl | simp only [areData, Aw.isData, areData_bsV, Bool.and_true]) ?_; simp only [go_sem, seval]
  refine hK _ ?_; clear hK K
  refine gC fun K hK => ?_
  first | refine fcall_data (b1) rfl ?_ | refine YR_intro (acall_data (b1) rfl) ?_
  simp only [go_sem, seval]
  refine hK _ ?_; clear hK K
  refine gC fun K hK => ?_
  first | refine fcall_data (b2) rfl ?_ | refine YR_intro (acall_data (b2) rfl) ?_
  simp only [go_sem, seval]
  refine hK _ ?_; clear hK K
  (repeat refine ats_seq ?_)
  refine ats_upto ⟨[(0, .lv (bsV c)), (2, .bool false), (3, .int k), (4, .bptr 0 0), (5, .int (spR1 k).2), (84, .bool false)], [(0, .bx [.l3 (spR1 k).1])]⟩ ?_ ?_
  ·by_cases h2 : c2 = 0
   ·subst h2
    rw [b3 rfl] at i2
    (repeat refine ats_seq ?_); refine ats_go (fix0 hcx) fun K hK => ?_; simp only [go_sem, seval, decide_true, Bool.not_true]
    first | refine YR_intro (fun _ => acall_data (r2) rfl) ?_ | refine YR_intro (acall_data (r2) rfl) ?_
    simp only [go_sem, seval]
    simp only [go_sem, seval, decide_true, Bool.not_true]
    first | refine YR_intro (fun _ => acall_data (i2) rfl) ?_ | refine YR_intro (acall_data (i2) rfl) ?_
    simp only [go_sem, seval]
    refine hK _ ?_; clear hK K
    refine ats_nil ?_; refine Or.inl ⟨rfl, ghost_to [1, 2, 3] []⟩
   ·have h2' := eq_false h2
    (repeat refine ats_seq ?_); refine ats_go (fix0 hcx) fun K hK => ?_; simp only [go_sem, seval, decide_true, Bool.not_true]
    first | refine YR_intro (fun _ => acall_data (r2) rfl) ?_ | refine YR_intro (acall_data (r2) rfl) ?_
    simp only [go_sem, seval]
    simp only [go_sem, seval, decide_true, Bool.not_true, h2', decide_false]
    refine YR_intro (v := .bool true) (by first | trivial | (intro h; cases h)) ?_
    simp only [go_sem, seval, decide_true, Bool.not_true, h2', decide_false]
    refine hK _ ?_; clear hK K
    refine ats_nil ?_; refine Or.inl ⟨rfl, ghost_to [1, 2, 3] []⟩
  (repeat refine ats_seq ?_); refine ats_no rfl trivial ?_
  refine ats_skip ?_
  refine gB ?_
  (repeat refine ats_seq ?_)
  refine ats_upto ⟨[(0, .lv (bsV c)), (2, .bool false)], []⟩ ?_ ?_
  ·refine gI (fun h1 => ?_) fun h1 => ?_
   ·obtain ⟨kk, rfl, k15, e1, e2, hr⟩ := a3 h1
    rw [e2] at a4
    rw [e1]
    clear a1 a2 a3 r1
    have hE := even_ok kk k15
    have hi := IsRing_ok (spnT kk 1)
    rw [hr] at hi
    have rr := ring9_ok (spnT kk 2) (spnT kk 2)
    rw [decide_eq_true rfl] at rr
    generalize spnT kk 1 = T1 at *
    generalize spnT kk 2 = T4 at *
    dsimp only at *
    refine gB ?_
    refine gB ?_
    (repeat refine ats_seq ?_); refine ats_loop (fun q : Nat => ⟨[(0, .lv (bsV c)), (2, .bool false), (3, .int kk), (4, .bptr 0 0), (13, .int (evS q : Nat)), (14, .int (2 * q : Nat))], [(0, .bx [.l3 T1])]⟩) (fun q => q ≤ (kk / 2 + 1)) (fun q => (kk / 2 + 1) - q) 0 (Nat.zero_le _) (by refine And.intro ?_ rfl; simp only [leS, Nat.reduceEqDiff, ↓reduceIte, true_and, and_true]; repeat' (first | rfl | with_reducible refine And.intro ?_ ?_ | omega)) (fun q hq => ?_)
    refine gB ?_
    refine gI (fun hq2 => ?_) fun hq2 => ?_
    ·have hq3 : q ≤ 7 := by omega
     have e5 : ((2 * q : Nat) : Int) % 18446744073709551616 = ((2 * q : Nat) : Int) := by omega
     have e6 := shlI_one (k := 2 * q) (by omega)
     have b1 := evS_small q (by omega)
     have b2 : 2 ^ (2 * q) < 65536 := Nat.lt_of_le_of_lt (Nat.pow_le_pow_right (by decide) (show 2 * q ≤ 14 by omega)) (by decide)
     have e7 := orS (a := evS q) (b := 2 ^ (2 * q)) b1 b2
     have e8 : evS q ||| 2 ^ (2 * q) = evS (q + 1) := rfl
     rw [e8] at e7
     have e9 : ((2 * q : Nat) : Int) + 2 = ((2 * (q + 1) : Nat) : Int) := by omega
     refine ats_skip ?_
     (repeat refine ats_seq ?_); refine ats_block ?_
     refine gC fun K hK => ?_
     rw [e5]
     rw [e6]
     rw [e7]
     (repeat refine aI (hb := ?_))
     refine hK _ ?_; clear hK K
     refine gC fun K hK => ?_
     rw [e9]
     (repeat refine aI (hb := ?_))
     refine hK _ ?_; clear hK K
     refine ⟨q + 1,  by omega, by omega, .inl ⟨by simp only [leS, Nat.reduceEqDiff, ↓reduceIte, true_and, and_true]; (try exact ⟨rfl, rfl⟩),  rfl⟩⟩
    ·obtain rfl : q = kk / 2 + 1 := by omega
     refine ats_exit (lq_x ?_)
     refine gC fun K hK => ?_
     first | refine fcall_data (a4) rfl ?_ | refine YR_intro (acall_data (a4) rfl) ?_
     simp only [go_sem, seval]
     refine hK _ ?_; clear hK K
     refine gC fun K hK => ?_
     first | refine fcall_fresh rfl (hE) ?_ | refine YR_intro (acall_fresh rfl (hE)) ?_
     simp only [go_sem, seval]
     refine hK _ ?_; clear hK K
     (repeat refine ats_seq ?_); refine ats_go (fix0 hcx) fun K hK => ?_; simp only [go_sem, seval, decide_true, Bool.not_true]
     first | refine YR_intro (fun _ => acall_data (hi) rfl) ?_ | refine YR_intro (acall_data (hi) rfl) ?_
     simp only [go_sem, seval]
     (try simp only [go_sem, seval, decide_true, Bool.not_true])
     first | refine YR_intro (fun _ => acall_data (rr) rfl) ?_ | refine YR_intro (acall_data (rr) rfl) ?_
     simp only [go_sem, seval]
     refine hK _ ?_; clear hK K
     (repeat refine ats_seq ?_); refine ats_no rfl trivial ?_
     refine ats_skip ?_
     refine ats_nil ?_; refine Or.inl ⟨rfl, ghost_to [0, 1, 2] []⟩
   ·refine ats_skip ?_
    refine ats_nil ?_; refine Or.inl ⟨rfl, ghost_to [0] []⟩
  refine gC fun K hK => ?_
  refine fcall_data (hD3) (by first | rfl | simp only [areData, Aw.isData, areData_bsV, Bool.and_true]) ?_; simp only [go_sem, seval]
  refine hK _ ?_; clear hK K
  refine gC fun K hK => ?_
  first | refine fcall_data (d1) rfl ?_ | refine YR_intro (acall_data (d1) rfl) ?_
  simp only [go_sem, seval]
  refine hK _ ?_; clear hK K
  refine gC fun K hK => ?_
  first | refine fcall_data (d2) rfl ?_ | refine YR_intro (acall_data (d2) rfl) ?_
  simp only [go_sem, seval]
  refine hK _ ?_; clear hK K
  (repeat refine ats_seq ?_); refine ats_go (fix0 hcx) fun K hK => ?_; simp only [go_sem, seval, decide_true, Bool.not_true]
  first | refine YR_intro (fun _ => acall_data (r3) rfl) ?_ | refine YR_intro (acall_data (r3) rfl) ?_
  simp only [go_sem, seval]
  refine hK _ ?_; clear hK K
  (repeat refine ats_seq ?_); refine ats_no rfl trivial ?_
  refine ats_skip ?_
  refine gB ?_
  by_cases h3 : c3 = 0
  ·obtain ⟨hx, hy, eT, hP⟩ := d3 h3
   subst h3
   have eT : T3 = krR x y x.length y.length := eT
   subst eT
   have iP := IsRing_ok (krR x y x.length y.length)
   rw [hP.faults] at iP
   obtain ⟨f1, f2, f3⟩ := id_prod (isRing_P hx) (isRing_P hy) hP
   have j1 := id_any x
   have j2 := id_any y
   have j3 := id_any (krR x y x.length y.length)
   generalize (idR x).2 = ca at *
   generalize (idR y).2 = cb at *
   generalize (idR (krR x y x.length y.length)).2 = cz at *
   generalize (idR x).1.getD [] = LA at *
   generalize (idR y).1.getD [] = LB at *
   generalize (idR (krR x y x.length y.length)).1.getD [] = LZ at *
   generalize krR x y x.length y.length = T3 at *
   (repeat refine ats_seq ?_); refine ats_no rfl trivial ?_
   refine ats_skip ?_
   refine gC fun K hK => ?_
   first | refine fcall_fresh rfl (j1) ?_ | refine YR_intro (acall_fresh rfl (j1)) ?_
   simp only [go_sem, seval]
   refine hK _ ?_; clear hK K
   refine gC fun K hK => ?_
   first | refine fcall_fresh rfl (j2) ?_ | refine YR_intro (acall_fresh rfl (j2)) ?_
   simp only [go_sem, seval]
   refine hK _ ?_; clear hK K
   refine gC fun K hK => ?_
   first | refine fcall_fresh rfl (j3) ?_ | refine YR_intro (acall_fresh rfl (j3)) ?_
   simp only [go_sem, seval]
   refine hK _ ?_; clear hK K
   (repeat refine ats_seq ?_)
   refine ats_upto ⟨[(2, .bool false), (25, .l1 LA), (27, .l1 LB), (29, .l1 LZ), (185, .bool false)], []⟩ ?_ ?_
   ·by_cases ha : ca = 0
    ·by_cases hb : cb = 0
     ·have hz := f1.2 ⟨ha, hb⟩
      subst ha hb hz
      refine gC fun K hK => ?_
      first | refine fcall_data (iP) rfl ?_ | refine YR_intro (acall_data (iP) rfl) ?_
      simp only [go_sem, seval]
      simp only [go_sem, seval, decide_true, Bool.not_true]
      refine hK _ ?_; clear hK K
      refine ats_nil ?_; refine Or.inl ⟨rfl, ghost_to [0, 1, 2, 3] []⟩
     ·have hz : ¬ cz = 0 := fun h => hb (f1.1 h).2
      have ha' := eq_true ha
      have hb' := eq_false hb
      have hz' := eq_false hz
      refine gC fun K hK => ?_
      first | refine fcall_data (iP) rfl ?_ | refine YR_intro (acall_data (iP) rfl) ?_
      simp only [go_sem, seval]
      simp only [go_sem, seval, ha', hb', hz', decide_true, decide_false, Bool.not_true]
      refine hK _ ?_; clear hK K
      refine ats_nil ?_; refine Or.inl ⟨rfl, ghost_to [0, 1, 2, 3] []⟩
    ·have hz : ¬ cz = 0 := fun h => ha (f1.1 h).1
     have ha' := eq_false ha
     have hz' := eq_false hz
     refine gC fun K hK => ?_
     first | refine fcall_data (iP) rfl ?_ | refine YR_intro (acall_data (iP) rfl) ?_
     simp only [go_sem, seval]
     simp only [go_sem, seval, ha', hz', decide_true, decide_false, Bool.not_true]
     refine hK _ ?_; clear hK K
     refine ats_nil ?_; refine Or.inl ⟨rfl, ghost_to [0, 1, 2, 3] []⟩
   (repeat refine ats_seq ?_); refine ats_no rfl trivial ?_
   refine ats_skip ?_
   refine gB ?_
   (repeat refine ats_seq ?_); refine ats_loop (fun i : Nat => ⟨[(2, .bool false), (25, .l1 LA), (27, .l1 LB), (29, .l1 LZ), (31, .int i)], []⟩) (fun i => i ≤ LZ.length) (fun i => LZ.length - i) 0 (Nat.zero_le _) (by refine And.intro ?_ rfl; simp only [leS, Nat.reduceEqDiff, ↓reduceIte, true_and, and_true]; repeat' (first | rfl | with_reducible refine And.intro ?_ ?_ | omega)) (fun i hi => ?_)
   refine gB ?_
   refine gI (fun hi2 => ?_) fun hi2 => ?_
   ·obtain ⟨g1, g2, g3, g4, g5, g6⟩ := f3 i (by omega)
    have q1 := tdivN i LB.length
    have q2 := tmodN i LB.length
    have gp : i / LB.length ≤ i := Nat.div_le_self _ _
    have gr : i % LB.length ≤ i := Nat.mod_le _ _
    generalize i / LB.length = p at *
    generalize i % LB.length = r at *
    have g7 : 0 ≤ LA.getD p 0 * LB.getD r 0 ∧ LA.getD p 0 * LB.getD r 0 ≤ 16000 := by omega
    refine ats_skip ?_
    (repeat refine ats_seq ?_); refine ats_block ?_
    (repeat refine ats_seq ?_); refine ats_pick (fix0 hcx) mixed (by kernel_rfl) fun K hK => ?_; simp only [go_sem, seval]
    simp only [q1, q2]
    simp only [go_sem, seval]
    (repeat refine aI (hb := ?_))
    refine hK _ ?_; clear hK K
    refine gI (fun h5 => ?_) fun h5 => ?_
    ·omega
    ·refine ats_skip ?_
     refine gB ?_
     refine ⟨i + 1,  by omega, by omega, .inl ⟨by simp only [leS, Nat.reduceEqDiff, ↓reduceIte, true_and, and_true]; omega,  rfl⟩⟩
   ·obtain rfl : i = LZ.length := by omega
    refine ats_exit (lq_x ?_)
    refine gB ?_
    refine ats_ret (finB rfl ?_)
    rfl
  ·have hT := d4 h3
   have hT : T3 = [] := hT
   subst hT
   refine gI (fun h4 => ?_) fun h4 => ?_
   ·refine gB ?_
    refine ats_ret (finB rfl ?_)
    rfl
   ·exact absurd h4 h3
end Go.Proofs.YtmjcbgpbhlheoaaDoor
