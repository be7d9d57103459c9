import Derived.Test.YtppoaacplncppaaJz3
import Derived.Test.YtppoaacplncppaaJz4
import Derived.Test.YtppoaacplncppaaKp2
import Derived.Test.YtppoaacplncppaaBb
import Derived.Test.YtppoaacplncppaaWx1
set_option linter.unusedSimpArgs false
set_option linter.unusedVariables false
namespace Go.Proofs.Ytppoaacplncppaa
open Go Go.Aw Go.Pl
attribute [local go_sem] pickO List.getElem?_toArray List.getElem?_cons_zero List.getElem?_cons_succ Option.getD_some and_true true_and and_self
theorem pure_l1 {P : Program} {f : FuncId} {ds : List AV} {u : Option (List Int)} {c : Int} (h : PureCall P f ds (.tup [optA u, .int c])) : PureCall P f ds (.tup [.l1 (u.getD []), .int c]) := by
 cases u with
 | none => exact pure_nil h
 | some u => exact h
theorem fresh_l1 {P : Program} {f : FuncId} {ds : List AV} {u : Option (List Int)} {c : Int} (h : FreshCall P f ds (.tup [optA u, .int c])) : FreshCall P f ds (.tup [.l1 (u.getD []), .int c]) := by
 cases u with
 | none => exact fresh_nil h
 | some u => exact h
theorem fresh_l3 {P : Program} {f : FuncId} {ds : List AV} {u : Option Cu} {c : Int} (h : FreshCall P f ds (.tup [.agg [optT u], .int c])) : FreshCall P f ds (.tup [.agg [.l3 (u.getD [])], .int c]) := by
 cases u with
 | none => exact fresh_le h (avLe_tup (avsLe_cons (avLe_agg (avsLe_cons avLe_nil3 (avsLe_rfl _))) (avsLe_rfl _)))
 | some u => exact h
set_option maxRecDepth 100000 in
set_option maxHeartbeats 8000000 in
theorem fnRingKinds_ok (c : List Int) (hb : ByteOk c) : PureCall Try.prog 4 [.lv (bsV c)] (.bool true) := by
 have hbig := big_ok c
 by_cases h4 : 4096 < c.length
 ·rw [decide_eq_true h4] at hbig
  refine PureCall.introR (n := 246) (rs := [.tmp 2]) Try.call4 Try.func4 rfl rfl rfl (by simp only [List.length_cons, List.length_nil]; omega) (fun cx hcx hrd => ats_of ?_); simp only [argSlots, Nat.zero_add, Nat.reduceAdd]
  (repeat refine ats_seq ?_); refine ats_go (fix0 hcx) fun K hK => ?_; simp only [go_sem, seval]; (repeat refine aI (hb := ?_)); refine hK _ ?_; clear hK K
  (repeat refine ats_seq ?_); refine ats_go (fix0 hcx) fun K hK => ?_; simp only [go_sem, seval]
  refine fcall_data (hbig) (by first | rfl | simp only [areData, Aw.isData, areData_bsV, Bool.and_true]) ?_; simp only [go_sem, seval]
  refine hK _ ?_; clear hK K
  (repeat refine ats_seq ?_); refine ats_yes rfl trivial ?_
  (repeat refine ats_seq ?_); refine ats_go (fix0 hcx) fun K hK => ?_; simp only [go_sem, seval]; (repeat refine aI (hb := ?_)); refine hK _ ?_; clear hK K
  refine ats_ret (finB rfl ?_)
  rfl
 have hc : CodeOk c := ⟨by omega, hb⟩
 rw [decide_eq_false h4] at hbig
 obtain ⟨t, i, k, lt, hD⟩ := DrawPowerOfLabel_ok c hc
 have k1 := pure_l1 (implPw_ok t i k)
 have k2 := pure_l1 (specPw_ok t i k)
 generalize (pwR t i k).1.getD [] = x at *
 generalize (pwR t i k).2 = cx1 at *
 have keq : PureCall Try.prog 9 [.l1 x, .l1 x] (.bool true) := by simpa using likeInts_ok x x
 have o1 := fresh_l3 (implOp_ok t)
 have o2 := fresh_l3 (specOp_ok t)
 refine PureCall.introR (n := 246) (rs := [.tmp 2]) Try.call4 Try.func4 rfl rfl rfl (by simp only [List.length_cons, List.length_nil]; omega) (fun cx hcx hrd => ats_of ?_); simp only [argSlots, Nat.zero_add, Nat.reduceAdd]
 (repeat refine ats_seq ?_); refine ats_go (fix0 hcx) fun K hK => ?_; simp only [go_sem, seval]; (repeat refine aI (hb := ?_)); refine hK _ ?_; clear hK K
 (repeat refine ats_seq ?_); refine ats_go (fix0 hcx) fun K hK => ?_; simp only [go_sem, seval]
 refine fcall_data (hbig) (by first | rfl | simp only [areData, Aw.isData, areData_bsV, Bool.and_true]) ?_; simp only [go_sem, seval]
 refine hK _ ?_; clear hK K
 (repeat refine ats_seq ?_); refine ats_no rfl trivial ?_
 refine ats_skip ?_
 (repeat refine ats_seq ?_); refine ats_go (fix0 hcx) fun K hK => ?_; simp only [go_sem, seval]
 refine fcall_data (hD) (by first | rfl | simp only [areData, Aw.isData, areData_bsV, Bool.and_true]) ?_; simp only [go_sem, seval]
 refine hK _ ?_; clear hK K
 (repeat refine ats_seq ?_); refine AT.ghost (st' := ⟨[(0, .lv (bsV c)), (2, .bool false), (3, .bptr 5 0), (4, .int i), (5, .int k)], [(5, .bx [.l3 t])]⟩) (ghost_to [] [(0, 5)]) ?_
 (repeat refine ats_seq ?_); refine ats_go (fix0 hcx) fun K hK => ?_; simp only [go_sem, seval]
 first | refine fcall_data (k1) rfl ?_ | refine YR_intro (acall_data (k1) rfl) ?_
 simp only [go_sem, seval]
 refine hK _ ?_; clear hK K
 (repeat refine ats_seq ?_); refine ats_go (fix0 hcx) fun K hK => ?_; simp only [go_sem, seval]
 first | refine fcall_data (k2) rfl ?_ | refine YR_intro (acall_data (k2) rfl) ?_
 simp only [go_sem, seval]
 refine hK _ ?_; clear hK K
 (repeat refine ats_seq ?_); refine ats_go (fix0 hcx) fun K hK => ?_; simp only [go_sem, seval]
 first | refine YR_intro (fun _ => acall_free rfl rfl (keq)) ?_ | refine YR_intro (acall_free rfl rfl (keq)) ?_
 simp only [go_sem, seval]
 refine hK _ ?_; clear hK K
 (repeat refine ats_seq ?_); first | refine ats_ifn (p := _) rfl trivial (fun h1 => ?_) (fun h1 => ?_) | refine ats_ifp (p := _) rfl trivial (fun h1 => ?_) (fun h1 => ?_) | refine ats_cond rfl trivial (fun h1 => ?_) (fun h1 => ?_)
 ·simp at h1
 refine ats_skip ?_
 cases hr : isRing t with
 | false =>
  have eo : opR t = (none, 1) := by unfold opR; rw [hr]; rfl
  rw [eo] at o1 o2
  simp only [Option.getD_none] at o1 o2
  have kr : PureCall Try.prog 23 [.agg [.l3 []], .agg [.l3 []]] (.bool true) := by simpa using ring9_ok [] []
  (repeat refine ats_seq ?_); refine ats_go (fix0 hcx) fun K hK => ?_; simp only [go_sem, seval]
  first | refine fcall_fresh rfl (o1) ?_ | refine YR_intro (acall_fresh rfl (o1)) ?_
  simp only [go_sem, seval]
  refine hK _ ?_; clear hK K
  (repeat refine ats_seq ?_); refine ats_go (fix0 hcx) fun K hK => ?_; simp only [go_sem, seval]
  first | refine fcall_fresh rfl (o2) ?_ | refine YR_intro (acall_fresh rfl (o2)) ?_
  simp only [go_sem, seval]
  refine hK _ ?_; clear hK K
  (repeat refine ats_seq ?_); refine ats_go (fix0 hcx) fun K hK => ?_; simp only [go_sem, seval]
  first | refine YR_intro (fun _ => acall_free rfl rfl (kr)) ?_ | refine YR_intro (acall_free rfl rfl (kr)) ?_
  simp only [go_sem, seval]
  refine hK _ ?_; clear hK K
  (repeat refine ats_seq ?_); first | refine ats_ifn (p := _) rfl trivial (fun h2 => ?_) (fun h2 => ?_) | refine ats_ifp (p := _) rfl trivial (fun h2 => ?_) (fun h2 => ?_) | refine ats_cond rfl trivial (fun h2 => ?_) (fun h2 => ?_)
  ·simp at h2
  refine ats_skip ?_
  (repeat refine ats_seq ?_); refine ats_go (fix0 hcx) fun K hK => ?_; simp only [go_sem, seval]; (repeat refine aI (hb := ?_)); refine hK _ ?_; clear hK K
  (repeat refine ats_seq ?_); refine ats_yes rfl trivial ?_
  (repeat refine ats_seq ?_); refine ats_go (fix0 hcx) fun K hK => ?_; simp only [go_sem, seval]; (repeat refine aI (hb := ?_)); refine hK _ ?_; clear hK K
  refine ats_ret (finB rfl ?_)
  rfl
 | true =>
  have hP := isRing_P hr
  have hcu := hP.cube
  have h16 := hcu.2.1
  have eo : opR t = (some (oppL t t.length), 0) := by unfold opR; rw [hr]; rfl
  rw [eo] at o1 o2
  simp only [Option.getD_some] at o1 o2
  have ro : isRing (oppL t t.length) = true := P_isRing (opp_ring hP)
  have o3 := fresh_l3 (implOp_ok (oppL t t.length))
  have eo3 : opR (oppL t t.length) = (some t, 0) := by unfold opR; rw [ro, opp_opp hcu]; rfl
  rw [eo3] at o3
  simp only [Option.getD_some] at o3
  have kI := IsRing_ok (oppL t t.length)
  rw [ro] at kI
  have kC := implCm_ok t
  have kS := implSd_ok t
  have kD := implDu_ok t
  rw [hr] at kC kS kD
  simp only [Bool.true_and, if_true] at kC kS kD
  have eC : bd (CommP t) = decide (oppL t t.length = t) := by
   by_cases h : CommP t
   ·rw [bd_true h, decide_eq_true ((comm_iff hcu).1 h).symm]
   ·rw [bd_false h, decide_eq_false (fun e => h ((comm_iff hcu).2 e.symm))]
  rw [eC] at kC
  have r1 : PureCall Try.prog 23 [.agg [.l3 (oppL t t.length)], .agg [.l3 (oppL t t.length)]] (.bool true) := by simpa using ring9_ok (oppL t t.length) (oppL t t.length)
  have r2 : PureCall Try.prog 23 [.agg [.l3 t], .agg [.l3 t]] (.bool true) := by simpa using ring9_ok t t
  have r3 := ring9_ok (oppL t t.length) t
  have ld := ds_length t
  have gd := fun (j : Nat) (hj : j < t.length) => ds_get hj
  generalize oppL t t.length = o at *
  generalize ds t = D at *
  (repeat refine ats_seq ?_); refine ats_go (fix0 hcx) fun K hK => ?_; simp only [go_sem, seval]
  first | refine fcall_fresh rfl (o1) ?_ | refine YR_intro (acall_fresh rfl (o1)) ?_
  simp only [go_sem, seval]
  refine hK _ ?_; clear hK K
  (repeat refine ats_seq ?_); refine ats_go (fix0 hcx) fun K hK => ?_; simp only [go_sem, seval]
  first | refine fcall_fresh rfl (o2) ?_ | refine YR_intro (acall_fresh rfl (o2)) ?_
  simp only [go_sem, seval]
  refine hK _ ?_; clear hK K
  (repeat refine ats_seq ?_); refine ats_go (fix0 hcx) fun K hK => ?_; simp only [go_sem, seval]
  first | refine YR_intro (fun _ => acall_free rfl rfl (r1)) ?_ | refine YR_intro (acall_free rfl rfl (r1)) ?_
  simp only [go_sem, seval]
  refine hK _ ?_; clear hK K
  (repeat refine ats_seq ?_); first | refine ats_ifn (p := _) rfl trivial (fun h2 => ?_) (fun h2 => ?_) | refine ats_ifp (p := _) rfl trivial (fun h2 => ?_) (fun h2 => ?_) | refine ats_cond rfl trivial (fun h2 => ?_) (fun h2 => ?_)
  ·simp at h2
  refine ats_skip ?_
  (repeat refine ats_seq ?_); refine ats_go (fix0 hcx) fun K hK => ?_; simp only [go_sem, seval]; (repeat refine aI (hb := ?_)); refine hK _ ?_; clear hK K
  (repeat refine ats_seq ?_); refine ats_no rfl trivial ?_
  refine ats_skip ?_
  (repeat refine ats_seq ?_); refine ats_go (fix0 hcx) fun K hK => ?_; simp only [go_sem, seval]
  first | refine fcall_fresh rfl (o3) ?_ | refine YR_intro (acall_fresh rfl (o3)) ?_
  simp only [go_sem, seval]
  refine hK _ ?_; clear hK K
  (repeat refine ats_seq ?_); refine ats_go (fix0 hcx) fun K hK => ?_; simp only [go_sem, seval]
  first | refine fcall_data (kC) rfl ?_ | refine YR_intro (acall_data (kC) rfl) ?_
  simp only [go_sem, seval]
  refine hK _ ?_; clear hK K
  (repeat refine ats_seq ?_); refine ats_go (fix0 hcx) fun K hK => ?_; simp only [go_sem, seval]
  first | refine fcall_data (kS) rfl ?_ | refine YR_intro (acall_data (kS) rfl) ?_
  simp only [go_sem, seval]
  refine hK _ ?_; clear hK K
  (repeat refine ats_seq ?_); refine ats_go (fix0 hcx) fun K hK => ?_; simp only [go_sem, seval]
  first | refine fcall_fresh rfl (kD) ?_ | refine YR_intro (acall_fresh rfl (kD)) ?_
  simp only [go_sem, seval]
  refine hK _ ?_; clear hK K
  (repeat refine ats_seq ?_); refine AT.ghost (st' := ⟨[(0, .lv (bsV c)), (2, .bool false), (3, .bptr 5 0), (10, .bptr 6 0), (14, .bptr 7 0), (15, .int 0), (16, .bool (decide (o = t))), (17, .int 0), (18, .bool (bd (∀ i, i < t.length → D.getD i 0 = i))), (19, .int 0), (20, .l1 D), (21, .int 0)], [(5, .bx [.l3 t]), (6, .bx [.l3 o]), (7, .bx [.l3 t])]⟩) (ghost_to [7] [(8, 7)]) ?_
  (repeat refine ats_seq ?_); refine ats_go (fix0 hcx) fun K hK => ?_; simp only [go_sem, seval]
  first | refine YR_intro (fun _ => acall_free rfl rfl (r2)) ?_ | refine YR_intro (acall_free rfl rfl (r2)) ?_
  simp only [go_sem, seval]
  first | refine YR_intro (fun _ => acall_free rfl rfl (kI)) ?_ | refine YR_intro (acall_free rfl rfl (kI)) ?_
  simp only [go_sem, seval]
  first | refine YR_intro (fun _ => acall_free rfl rfl (r3)) ?_ | refine YR_intro (acall_free rfl rfl (r3)) ?_
  simp only [go_sem, seval]
  refine hK _ ?_; clear hK K
  (repeat refine ats_seq ?_); first | refine ats_ifn (p := _) rfl trivial (fun h3 => ?_) (fun h3 => ?_) | refine ats_ifp (p := _) rfl trivial (fun h3 => ?_) (fun h3 => ?_) | refine ats_cond rfl trivial (fun h3 => ?_) (fun h3 => ?_)
  ·omega
  refine ats_skip ?_
  (repeat refine ats_seq ?_); refine AT.ghost (st' := ⟨[(0, .lv (bsV c)), (2, .bool false), (3, .bptr 5 0), (18, .bool (bd (∀ i, i < t.length → D.getD i 0 = i))), (20, .l1 D)], [(5, .bx [.l3 t])]⟩) (ghost_to [6, 7] []) ?_
  (repeat refine ats_seq ?_); refine ats_go (fix0 hcx) fun K hK => ?_; simp only [go_sem, seval]; (repeat refine aI (hb := ?_)); refine hK _ ?_; clear hK K
  (repeat refine ats_seq ?_); refine ats_go (fix0 hcx) fun K hK => ?_; simp only [go_sem, seval]; (repeat refine aI (hb := ?_)); refine hK _ ?_; clear hK K
  (repeat refine ats_seq ?_); refine ats_loop (fun j : Nat => ⟨[(0, .lv (bsV c)), (2, .bool false), (3, .bptr 5 0), (18, .bool (bd (∀ i, i < t.length → D.getD i 0 = i))), (20, .l1 D), (22, .bool (bd (∀ i, i < j → D.getD i 0 = i))), (23, .int j)], [(5, .bx [.l3 t])]⟩) (fun j => j ≤ t.length) (fun j => t.length - j) 0 (Nat.zero_le _) (by
   refine And.intro ?_ rfl; simp only [leS, Nat.reduceEqDiff, ↓reduceIte, true_and, and_true]
   rw [bd_true (fun i hi => absurd hi (Nat.not_lt_zero i))]
   exact ⟨rfl, rfl⟩) (fun j hj => ?_)
  (repeat refine ats_seq ?_); refine ats_go (fix0 hcx) fun K hK => ?_; simp only [go_sem, seval]; (repeat refine aI (hb := ?_)); refine hK _ ?_; clear hK K
  (repeat refine ats_seq ?_); first | refine ats_ifn (p := _) rfl trivial (fun h4 => ?_) (fun h4 => ?_) | refine ats_ifp (p := _) rfl trivial (fun h4 => ?_) (fun h4 => ?_) | refine ats_cond rfl trivial (fun h4 => ?_) (fun h4 => ?_)
  ·have eB : (bd (∀ i, i < j → D.getD i 0 = i) && decide (D.getD j 0 = j)) = bd (∀ i, i < j + 1 → D.getD i 0 = i) := by
    by_cases h : ∀ i, i < j + 1 → D.getD i 0 = i
    ·rw [bd_true h, bd_true (fun i hi => h i (by omega)), decide_eq_true (h j (by omega))]
     rfl
    ·rw [bd_false h]
     by_cases h5 : D.getD j 0 = j
     ·rw [bd_false (fun h6 => h fun i hi => by
       rcases Nat.lt_succ_iff_lt_or_eq.1 hi with h7 | rfl
       ·exact h6 i h7
       ·exact h5)]
      rfl
     ·rw [decide_eq_false h5, Bool.and_false]
   refine ats_skip ?_
   (repeat refine ats_seq ?_); refine ats_block ?_
   (repeat refine ats_seq ?_); refine ats_go (fix0 hcx) fun K hK => ?_; simp only [go_sem, seval]
   (repeat refine aI (hb := ?_))
   rw [eB]
   refine hK _ ?_; clear hK K
   (repeat refine ats_seq ?_); refine ats_go (fix0 hcx) fun K hK => ?_; simp only [go_sem, seval]; (repeat refine aI (hb := ?_)); refine hK _ ?_; clear hK K
   refine ⟨j + 1,  by omega, by omega, .inl ⟨by simp only [leS, Nat.reduceEqDiff, ↓reduceIte, true_and, and_true]; (try omega),  rfl⟩⟩
  ·obtain rfl : j = t.length := by omega
   refine ats_exit (lq_x ?_)
   (repeat refine ats_seq ?_); refine ats_go (fix0 hcx) fun K hK => ?_; simp only [go_sem, seval]; (repeat refine aI (hb := ?_)); refine hK _ ?_; clear hK K
   (repeat refine ats_seq ?_); first | refine ats_ifn (p := _) rfl trivial (fun h5 => ?_) (fun h5 => ?_) | refine ats_ifp (p := _) rfl trivial (fun h5 => ?_) (fun h5 => ?_) | refine ats_cond rfl trivial (fun h5 => ?_) (fun h5 => ?_)
   ·simp at h5
   refine ats_skip ?_
   have hS := roll_ok c hc 4002
   have ok0 := rlS_ok (seed := 4002) hc
   generalize rlS c 4002 = s0 at *
   have hA := below_ok s0 ok0 3 (by omega)
   have bA := nx_bd s0 (n := 3) (by omega)
   have okA := nx_ok ok0 3
   generalize nx s0 3 = a at *
   have hB := below_ok a.2 okA 3 (by omega)
   have bB := nx_bd a.2 (n := 3) (by omega)
   have okB := nx_ok okA 3
   generalize nx a.2 3 = b at *
   have hJ := below_ok b.2 okB t.length (by omega)
   have bJ := nx_bd b.2 (n := t.length) (by have := hcu.1; omega)
   generalize nx b.2 t.length = j at *
   have kA := pure_l1 (implPw_ok t j.1 a.1)
   have kB := pure_l1 (implPw_ok t j.1 b.1)
   have kW := pure_l1 (implPw_ok t j.1 (a.1 + b.1))
   have kW2 := pure_l1 (specPw_ok t j.1 (a.1 + b.1))
   have lJ : lblB t j.1 = true := lblB_iff.2 ⟨bJ.1, by omega⟩
   have eP : ∀ m : Int, 0 ≤ m → m ≤ 40 → (pwR t j.1 m).2 = 0 → ∃ x, pwv t j.1.toNat m.toNat = some x ∧ (pwR t j.1 m).1.getD [] = x := fun m m0 m1 h => by
    unfold pwR at h ⊢
    rw [hr, lJ, decide_eq_true m0, decide_eq_true m1] at h ⊢
    simp only [Bool.and_self, if_true] at h ⊢
    cases hp : pwv t j.1.toNat m.toNat with
    | none => rw [hp] at h; cases h
    | some x => exact ⟨x, rfl, rfl⟩
   have eA := eP a.1 (by omega) (by omega)
   have eB := eP b.1 (by omega) (by omega)
   have eW := eP (a.1 + b.1) (by omega) (by omega)
   clear eP
   have hM := fresh_l1 (implMv_ok t ((pwR t j.1 a.1).1.getD []) ((pwR t j.1 b.1).1.getD []))
   obtain ⟨mv, emv⟩ : ∃ m, mvR t ((pwR t j.1 a.1).1.getD []) ((pwR t j.1 b.1).1.getD []) = m := ⟨_, rfl⟩
   rw [emv] at hM
   generalize (pwR t j.1 a.1).1.getD [] = u at *
   generalize (pwR t j.1 a.1).2 = cu at *
   generalize (pwR t j.1 b.1).1.getD [] = v at *
   generalize (pwR t j.1 b.1).2 = cv at *
   generalize (pwR t j.1 (a.1 + b.1)).1.getD [] = w at *
   generalize (pwR t j.1 (a.1 + b.1)).2 = cw at *
   (repeat refine ats_seq ?_); refine ats_go (fix0 hcx) fun K hK => ?_; simp only [go_sem, seval]
   refine fcall_bx (hS) (k := ?_); simp only [Aw.ids, go_sem, seval]
   refine hK _ ?_; clear hK K
   (repeat refine ats_seq ?_); refine AT.ghost (st' := ⟨[(2, .bool false), (3, .bptr 5 0), (24, .bptr 0 0)], [(0, srcB s0), (5, .bx [.l3 t])]⟩) (ghost_can [] (by simp only [go_sem, seval, AV.int.injEq, AV.bool.injEq, AV.l1.injEq, AV.l2.injEq, AV.l3.injEq]) (by simp only [go_sem, seval])) ?_
   clear gd ld r1 r2 r3 kI kC kS kD o1 o2 o3 keq k1 k2 hbig hD
   (repeat refine ats_seq ?_)
   obtain ⟨z0, ez0⟩ : ∃ z : St, z = ⟨[(2, .bool false), (3, .bptr 5 0), (174, .bptr 0 0), (176, .bptr 0 0), (178, .bptr 0 0)], [(0, srcB s0), (5, .bx [.l3 t])]⟩ := ⟨_, rfl⟩
   obtain ⟨z1, ez1⟩ : ∃ z : St, z = ⟨[(2, .bool false), (3, .bptr 5 0), (175, .int a.1), (176, .bptr 0 0), (178, .bptr 0 0)], [(0, srcB a.2), (5, .bx [.l3 t])]⟩ := ⟨_, rfl⟩
   obtain ⟨z2, ez2⟩ : ∃ z : St, z = ⟨[(2, .bool false), (3, .bptr 5 0), (174, .bptr 0 0), (176, .bptr 0 0), (178, .bptr 0 0), (179, .bptr 5 0)], [(0, srcB s0), (5, .bx [.l3 t])]⟩ := ⟨_, rfl⟩
   obtain ⟨z3, ez3⟩ : ∃ z : St, z = ⟨[(2, .bool false), (3, .bptr 5 0), (175, .int a.1), (177, .int b.1), (178, .bptr 0 0)], [(0, srcB b.2), (5, .bx [.l3 t])]⟩ := ⟨_, rfl⟩
   obtain ⟨z4, ez4⟩ : ∃ z : St, z = ⟨[(2, .bool false), (3, .bptr 5 0), (175, .int a.1), (176, .bptr 0 0), (178, .bptr 0 0), (179, .bptr 5 0)], [(0, srcB a.2), (5, .bx [.l3 t])]⟩ := ⟨_, rfl⟩
   obtain ⟨z5, ez5⟩ : ∃ z : St, z = ⟨[(2, .bool false), (3, .bptr 5 0), (174, .bptr 0 0), (176, .bptr 0 0), (178, .bptr 0 0), (180, .l3 t)], [(0, srcB s0), (5, .bx [.l3 t])]⟩ := ⟨_, rfl⟩
   obtain ⟨z6, ez6⟩ : ∃ z : St, z = ⟨[(2, .bool false), (3, .bptr 5 0), (175, .int a.1), (177, .int b.1), (178, .bptr 0 0), (179, .bptr 5 0)], [(0, srcB b.2), (5, .bx [.l3 t])]⟩ := ⟨_, rfl⟩
   obtain ⟨z7, ez7⟩ : ∃ z : St, z = ⟨[(2, .bool false), (3, .bptr 5 0), (175, .int a.1), (176, .bptr 0 0), (178, .bptr 0 0), (180, .l3 t)], [(0, srcB a.2), (5, .bx [.l3 t])]⟩ := ⟨_, rfl⟩
   obtain ⟨z8, ez8⟩ : ∃ z : St, z = ⟨[(2, .bool false), (3, .bptr 5 0), (174, .bptr 0 0), (176, .bptr 0 0), (178, .bptr 0 0), (181, .int t.length)], [(0, srcB s0), (5, .bx [.l3 t])]⟩ := ⟨_, rfl⟩
   obtain ⟨z9, ez9⟩ : ∃ z : St, z = ⟨[(2, .bool false), (3, .bptr 5 0), (175, .int a.1), (177, .int b.1), (178, .bptr 0 0), (180, .l3 t)], [(0, srcB b.2), (5, .bx [.l3 t])]⟩ := ⟨_, rfl⟩
   obtain ⟨z10, ez10⟩ : ∃ z : St, z = ⟨[(2, .bool false), (3, .bptr 5 0), (175, .int a.1), (176, .bptr 0 0), (178, .bptr 0 0), (181, .int t.length)], [(0, srcB a.2), (5, .bx [.l3 t])]⟩ := ⟨_, rfl⟩
   obtain ⟨z11, ez11⟩ : ∃ z : St, z = ⟨[(2, .bool false), (3, .bptr 5 0), (175, .int a.1), (177, .int b.1), (178, .bptr 0 0), (181, .int t.length)], [(0, srcB b.2), (5, .bx [.l3 t])]⟩ := ⟨_, rfl⟩
   obtain ⟨z12, ez12⟩ : ∃ z : St, z = ⟨[(2, .bool false), (3, .bptr 5 0), (175, .int a.1), (177, .int b.1), (182, .int j.1)], [(0, srcB j.2), (5, .bx [.l3 t])]⟩ := ⟨_, rfl⟩
   obtain ⟨z13, ez13⟩ : ∃ z : St, z = ⟨[(2, .bool false), (3, .bptr 5 0), (25, .int a.1), (177, .int b.1), (182, .int j.1)], [(0, srcB j.2), (5, .bx [.l3 t])]⟩ := ⟨_, rfl⟩
   obtain ⟨z14, ez14⟩ : ∃ z : St, z = ⟨[(2, .bool false), (3, .bptr 5 0), (25, .int a.1), (26, .int b.1), (182, .int j.1)], [(0, srcB j.2), (5, .bx [.l3 t])]⟩ := ⟨_, rfl⟩
   obtain ⟨z15, ez15⟩ : ∃ z : St, z = ⟨[(2, .bool false), (3, .bptr 5 0), (25, .int a.1), (26, .int b.1), (27, .int j.1)], [(0, srcB j.2), (5, .bx [.l3 t])]⟩ := ⟨_, rfl⟩
   refine ats_table [1, 3, 8] [0, 2, 4] [[0, 2, 4], [0, 1, 2, 4], [0, 2, 4, 5], [0, 1, 2, 3, 4], [0, 1, 2, 4, 5], [0, 2, 4, 5, 6], [0, 1, 2, 3, 4, 5], [0, 1, 2, 4, 5, 6], [0, 2, 4, 5, 6, 7], [0, 1, 2, 3, 4, 5, 6], [0, 1, 2, 4, 5, 6, 7], [0, 1, 2, 3, 4, 5, 6, 7], [0, 1, 2, 3, 4, 5, 6, 7, 8], [0, 1, 2, 3, 4, 5, 6, 7, 8, 9], [0, 1, 2, 3, 4, 5, 6, 7, 8, 9, 10], [0, 1, 2, 3, 4, 5, 6, 7, 8, 9, 10, 11]] [(0, 1, 1), (0, 5, 2), (1, 3, 3), (1, 5, 4), (2, 1, 4), (2, 6, 5), (3, 5, 6), (4, 3, 6), (4, 6, 7), (5, 1, 7), (5, 7, 8), (6, 6, 9), (7, 3, 9), (7, 7, 10), (8, 1, 10), (9, 7, 11), (10, 3, 11), (11, 8, 12), (12, 9, 13), (13, 10, 14), (14, 11, 15)] [z0, z1, z2, z3, z4, z5, z6, z7, z8, z9, z10, z11, z12, z13, z14, z15] hrd (by first | exact fix0 hcx | exact fix1 hcx rfl | exact fixN hcx rfl) mixed (by kernel_rfl) ?_ ?_ ?_
   ·show mvTRun _ _ _ _ _ _ (fun s => Ghost _ _ s z0)
    rw [ez0]; simp only [go_sem, seval]; repeat' (first | exact dt_can ⟨rfl, rfl, rfl, rfl, rfl, trivial⟩ rfl | with_reducible refine And.intro ?_ ?_ | omega)
   ·refine ⟨?_, ?_, ?_, ?_, ?_, ?_, ?_, ?_, ?_, ?_, ?_, ?_, ?_, ?_, ?_, ?_, ?_, ?_, ?_, ?_, ?_, trivial⟩
    ·show gRun _ _ _ _ _ z0 (fun st' => Ghost _ _ st' z1)
     rw [ez0, ez1]; simp only [go_sem, seval]; refine fcall_src (hA) rfl rfl ?_; simp only [go_sem, seval]; exact dt_can ⟨rfl, rfl, rfl, rfl, rfl, trivial⟩ rfl
    ·show gRun _ _ _ _ _ z0 (fun st' => Ghost _ _ st' z2)
     rw [ez0, ez2]; simp only [go_sem, seval]; exact dt_can ⟨rfl, rfl, rfl, rfl, rfl, rfl, trivial⟩ rfl
    ·show gRun _ _ _ _ _ z1 (fun st' => Ghost _ _ st' z3)
     rw [ez1, ez3]; simp only [go_sem, seval]; refine fcall_src (hB) rfl rfl ?_; simp only [go_sem, seval]; exact dt_can ⟨rfl, rfl, rfl, rfl, rfl, trivial⟩ rfl
    ·show gRun _ _ _ _ _ z1 (fun st' => Ghost _ _ st' z4)
     rw [ez1, ez4]; simp only [go_sem, seval]; exact dt_can ⟨rfl, rfl, rfl, rfl, rfl, rfl, trivial⟩ rfl
    ·show gRun _ _ _ _ _ z2 (fun st' => Ghost _ _ st' z4)
     rw [ez2, ez4]; simp only [go_sem, seval]; refine fcall_src (hA) rfl rfl ?_; simp only [go_sem, seval]; exact dt_can ⟨rfl, rfl, rfl, rfl, rfl, rfl, trivial⟩ rfl
    ·show gRun _ _ _ _ _ z2 (fun st' => Ghost _ _ st' z5)
     rw [ez2, ez5]; simp only [go_sem, seval]; repeat' (first | exact dt_can ⟨rfl, rfl, rfl, rfl, rfl, rfl, trivial⟩ rfl | with_reducible refine And.intro ?_ ?_ | omega)
    ·show gRun _ _ _ _ _ z3 (fun st' => Ghost _ _ st' z6)
     rw [ez3, ez6]; simp only [go_sem, seval]; exact dt_can ⟨rfl, rfl, rfl, rfl, rfl, rfl, trivial⟩ rfl
    ·show gRun _ _ _ _ _ z4 (fun st' => Ghost _ _ st' z6)
     rw [ez4, ez6]; simp only [go_sem, seval]; refine fcall_src (hB) rfl rfl ?_; simp only [go_sem, seval]; exact dt_can ⟨rfl, rfl, rfl, rfl, rfl, rfl, trivial⟩ rfl
    ·show gRun _ _ _ _ _ z4 (fun st' => Ghost _ _ st' z7)
     rw [ez4, ez7]; simp only [go_sem, seval]; repeat' (first | exact dt_can ⟨rfl, rfl, rfl, rfl, rfl, rfl, trivial⟩ rfl | with_reducible refine And.intro ?_ ?_ | omega)
    ·show gRun _ _ _ _ _ z5 (fun st' => Ghost _ _ st' z7)
     rw [ez5, ez7]; simp only [go_sem, seval]; refine fcall_src (hA) rfl rfl ?_; simp only [go_sem, seval]; exact dt_can ⟨rfl, rfl, rfl, rfl, rfl, rfl, trivial⟩ rfl
    ·show gRun _ _ _ _ _ z5 (fun st' => Ghost _ _ st' z8)
     rw [ez5, ez8]; simp only [go_sem, seval]; repeat' (first | exact dt_can ⟨rfl, rfl, rfl, rfl, rfl, rfl, trivial⟩ rfl | with_reducible refine And.intro ?_ ?_ | omega)
    ·show gRun _ _ _ _ _ z6 (fun st' => Ghost _ _ st' z9)
     rw [ez6, ez9]; simp only [go_sem, seval]; repeat' (first | exact dt_can ⟨rfl, rfl, rfl, rfl, rfl, rfl, trivial⟩ rfl | with_reducible refine And.intro ?_ ?_ | omega)
    ·show gRun _ _ _ _ _ z7 (fun st' => Ghost _ _ st' z9)
     rw [ez7, ez9]; simp only [go_sem, seval]; refine fcall_src (hB) rfl rfl ?_; simp only [go_sem, seval]; exact dt_can ⟨rfl, rfl, rfl, rfl, rfl, rfl, trivial⟩ rfl
    ·show gRun _ _ _ _ _ z7 (fun st' => Ghost _ _ st' z10)
     rw [ez7, ez10]; simp only [go_sem, seval]; repeat' (first | exact dt_can ⟨rfl, rfl, rfl, rfl, rfl, rfl, trivial⟩ rfl | with_reducible refine And.intro ?_ ?_ | omega)
    ·show gRun _ _ _ _ _ z8 (fun st' => Ghost _ _ st' z10)
     rw [ez8, ez10]; simp only [go_sem, seval]; refine fcall_src (hA) rfl rfl ?_; simp only [go_sem, seval]; exact dt_can ⟨rfl, rfl, rfl, rfl, rfl, rfl, trivial⟩ rfl
    ·show gRun _ _ _ _ _ z9 (fun st' => Ghost _ _ st' z11)
     rw [ez9, ez11]; simp only [go_sem, seval]; repeat' (first | exact dt_can ⟨rfl, rfl, rfl, rfl, rfl, rfl, trivial⟩ rfl | with_reducible refine And.intro ?_ ?_ | omega)
    ·show gRun _ _ _ _ _ z10 (fun st' => Ghost _ _ st' z11)
     rw [ez10, ez11]; simp only [go_sem, seval]; refine fcall_src (hB) rfl rfl ?_; simp only [go_sem, seval]; exact dt_can ⟨rfl, rfl, rfl, rfl, rfl, rfl, trivial⟩ rfl
    ·show gRun _ _ _ _ _ z11 (fun st' => Ghost _ _ st' z12)
     rw [ez11, ez12]; simp only [go_sem, seval]; refine fcall_src (hJ) rfl rfl ?_; simp only [go_sem, seval]; exact dt_can ⟨rfl, rfl, rfl, rfl, rfl, trivial⟩ rfl
    ·show gRun _ _ _ _ _ z12 (fun st' => Ghost _ _ st' z13)
     rw [ez12, ez13]; simp only [go_sem, seval]; exact dt_can ⟨rfl, rfl, rfl, rfl, rfl, trivial⟩ rfl
    ·show gRun _ _ _ _ _ z13 (fun st' => Ghost _ _ st' z14)
     rw [ez13, ez14]; simp only [go_sem, seval]; exact dt_can ⟨rfl, rfl, rfl, rfl, rfl, trivial⟩ rfl
    ·show gRun _ _ _ _ _ z14 (fun st' => Ghost _ _ st' z15)
     rw [ez14, ez15]; simp only [go_sem, seval]; exact dt_can ⟨rfl, rfl, rfl, rfl, rfl, trivial⟩ rfl
   show ATs _ _ _ _ _ z15
   rw [ez15]
   clear ez0 ez1 ez2 ez3 ez4 ez5 ez6 ez7 ez8 ez9 ez10 ez11 ez12 ez13 ez14 ez15 z0 z1 z2 z3 z4 z5 z6 z7 z8 z9 z10 z11 z12 z13 z14 z15
   (repeat refine ats_seq ?_)
   (repeat refine ats_seq ?_); refine ats_go (fix0 hcx) fun K hK => ?_; simp only [go_sem, seval]
   first | refine fcall_data (kA) rfl ?_ | refine YR_intro (acall_data (kA) rfl) ?_
   simp only [go_sem, seval]
   refine hK _ ?_; clear hK K
   (repeat refine ats_seq ?_); refine ats_go (fix0 hcx) fun K hK => ?_; simp only [go_sem, seval]
   first | refine fcall_data (kB) rfl ?_ | refine YR_intro (acall_data (kB) rfl) ?_
   simp only [go_sem, seval]
   refine hK _ ?_; clear hK K
   (repeat refine ats_seq ?_); refine ats_go (fix0 hcx) fun K hK => ?_; simp only [go_sem, seval]
   (repeat refine aI (hb := ?_))
   first | refine fcall_data (kW) rfl ?_ | refine YR_intro (acall_data (kW) rfl) ?_
   simp only [go_sem, seval]
   refine hK _ ?_; clear hK K
   (repeat refine ats_seq ?_); refine ats_go (fix0 hcx) fun K hK => ?_; simp only [go_sem, seval]; (repeat refine aI (hb := ?_)); refine hK _ ?_; clear hK K
   (repeat refine ats_seq ?_); first | refine ats_ifn (p := _) rfl trivial (fun h6 => ?_) (fun h6 => ?_) | refine ats_ifp (p := _) rfl trivial (fun h6 => ?_) (fun h6 => ?_) | refine ats_cond rfl trivial (fun h6 => ?_) (fun h6 => ?_)
   ·(repeat refine ats_seq ?_); refine ats_go (fix0 hcx) fun K hK => ?_; simp only [go_sem, seval]
    (repeat refine aI (hb := ?_))
    first | refine fcall_data (kW2) rfl ?_ | refine YR_intro (acall_data (kW2) rfl) ?_
    simp only [go_sem, seval]
    refine hK _ ?_; clear hK K
    (repeat refine ats_seq ?_); refine ats_go (fix0 hcx) fun K hK => ?_; simp only [go_sem, seval]; (repeat refine aI (hb := ?_)); refine hK _ ?_; clear hK K
    refine ats_ret (finB rfl ?_)
    simp
   ·simp only [Bool.or_eq_false_iff, Bool.not_eq_false', decide_eq_true_eq] at h6
    obtain ⟨⟨h7, h8⟩, h9⟩ := h6
    obtain ⟨u', pu, eu⟩ := eA h7
    obtain ⟨v', pv, ev⟩ := eB h8
    obtain ⟨w', pz, ew⟩ := eW h9
    subst eu
    subst ev
    subst ew
    rw [show (a.1 + b.1).toNat = a.1.toNat + b.1.toNat by omega] at pz
    have em := pwv_add hP pu pv pz
    refine ats_skip ?_
    (repeat refine ats_seq ?_); refine ats_go (fix0 hcx) fun K hK => ?_; simp only [go_sem, seval]
    first | refine fcall_fresh rfl (hM) ?_ | refine YR_intro (acall_fresh rfl (hM)) ?_
    simp only [go_sem, seval]
    refine hK _ ?_; clear hK K
    unfold mvR at emv
    rw [hr] at emv
    simp only [if_true] at emv
    cases hv : bd (VecX t.length 1000000 u ∧ VecX t.length 1000000 v) with
    | false =>
     rw [hv] at emv
     simp only [Bool.false_eq_true, if_false] at emv
     subst emv
     dsimp only [Option.getD_none]
     (repeat refine ats_seq ?_); refine ats_go (fix0 hcx) fun K hK => ?_; simp only [go_sem, seval]
     refine YR_intro (v := .bool false) (by first | trivial | (intro h; cases h)) ?_
     simp only [go_sem, seval]
     refine And.intro (by simp) ?_
     refine hK _ ?_; clear hK K
     refine ats_ret (finB rfl ?_)
     simp
    | true =>
     rw [hv] at emv
     simp only [if_true] at emv
     subst emv
     dsimp only [Option.getD_some]
     rw [em]
     have kl : PureCall Try.prog 9 [.l1 w, .l1 w] (.bool true) := by simpa using likeInts_ok w w
     (repeat refine ats_seq ?_); refine ats_go (fix0 hcx) fun K hK => ?_; simp only [go_sem, seval]
     first | refine YR_intro (fun _ => acall_free rfl rfl (kl)) ?_ | refine YR_intro (acall_free rfl rfl (kl)) ?_
     simp only [go_sem, seval]
     refine And.intro (by simp) ?_
     refine hK _ ?_; clear hK K
     refine ats_ret (finB rfl ?_)
     simp
end Go.Proofs.Ytppoaacplncppaa
