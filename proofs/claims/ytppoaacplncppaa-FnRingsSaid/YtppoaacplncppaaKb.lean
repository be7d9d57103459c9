import Derived.Test.YtppoaacplncppaaJz3
import Derived.Test.YtppoaacplncppaaJz4
import Derived.Test.YtppoaacplncppaaKp2
import Derived.Test.YtppoaacplncppaaBb
import Derived.Test.YtppoaacplncppaaWx1
set_option linter.unusedSimpArgs false
set_option linter.unusedVariables false
namespace Go.Proofs.Ytppoaacplncppaa
open Go Go.Aw Go.Pl
theorem pureL1 {P : Program} {f : FuncId} {ds : List AV} {u : Option (List Int)} {c : Int} (h : PureCall P f ds (.tup [optA u, .int c])) : PureCall P f ds (.tup [.l1 (u.getD []), .int c]) := by
 cases u with
 | none => exact pure_nil h
 | some u => exact h
theorem freshL1 {P : Program} {f : FuncId} {ds : List AV} {u : Option (List Int)} {c : Int} (h : FreshCall P f ds (.tup [optA u, .int c])) : FreshCall P f ds (.tup [.l1 (u.getD []), .int c]) := by
 cases u with
 | none => exact fresh_nil h
 | some u => exact h
theorem specIsR_ok (t : Cu) : PureCall Try.prog 11 [.agg [.l3 t]] (.bool (isRing t)) := by
 have h := l03Is_ok t
 refine PureCall.intro (n := 5) (rs := [.tmp 2]) Try.call11 Try.func11 rfl rfl rfl (by simp only [List.length_cons, List.length_nil]; omega) (fun cx hcx => ats_of ?_); simp only [argSlots, Nat.zero_add, Nat.reduceAdd]
 (repeat refine ats_seq ?_); refine ats_go (fix0 hcx) fun K hK => ?_; simp only [go_sem, seval]; (repeat refine aI (hb := ?_)); refine hK _ ?_; clear hK K
 (repeat refine ats_seq ?_); refine ats_go (fix0 hcx) fun K hK => ?_; simp only [go_sem, seval]
 first | refine fcall_data (h) rfl ?_ | refine YR_intro (acall_data (h) rfl) ?_
 simp only [go_sem, seval]
 refine hK _ ?_; clear hK K
 refine ats_ret (finB rfl ?_)
 rfl
theorem fl4 (t : Cu) : decide ((flR t).2 = 4) = isRing t := by
 unfold flR isRing
 by_cases hc : Cube t
 ·rw [bd_true hc]
  cases hf : faultF t with
  | none => rw [bd_true ⟨hc, rfl⟩]; rfl
  | some u => rw [bd_false (fun h => by cases h.2)]; rfl
 ·rw [bd_false hc, bd_false (fun h => hc h.1)]
  rfl
theorem prodL_small {t : Cu} (hc : Cube t) {x y : List Int} {X Y B : Int} (hx : VecX t.length X x) (hy : VecX t.length Y y) (hX : 0 ≤ X) (hXY : X * Y * 1000 ≤ B) : VecX t.length (t.length * (t.length * B)) (prodL t x y) := by
 refine ⟨prodL_len, fun k hk => ?_⟩
 rw [prodL_get hk]
 unfold prodV
 have hT : ∀ i, i < t.length → ∀ j, j < t.length → 0 ≤ pTm t x y k i j ∧ pTm t x y k i j ≤ B := fun i hi j hj => by
  have a := hx.2 i hi
  have b := hy.2 j hj
  have c : 0 ≤ e3 t i j k ∧ e3 t i j k ≤ 1000 := hc.inM hi hj hk
  have m1 : x.getD i 0 * y.getD j 0 ≤ X * Y := Int.mul_le_mul a.2 b.2 b.1 hX
  have m0 : 0 ≤ x.getD i 0 * y.getD j 0 := Int.mul_nonneg a.1 b.1
  have m2 : x.getD i 0 * y.getD j 0 * e3 t i j k ≤ X * Y * 1000 := Int.mul_le_mul m1 c.2 c.1 (by omega)
  exact ⟨Int.mul_nonneg m0 c.1, by unfold pTm; omega⟩
 exact sumTo_le (n := t.length) (fun i hi => sumTo_le (n := t.length) (fun j hj => hT i hi j hj))
set_option maxRecDepth 100000 in
set_option maxHeartbeats 8000000 in
theorem fnRings_ok (c : List Int) (hb : ByteOk c) : PureCall Try.prog 3 [.lv (bsV c)] (.bool true) := by
 have hbig := big_ok c
 by_cases h4 : 4096 < c.length
 ·rw [decide_eq_true h4] at hbig
  refine PureCall.introR (n := 230) (rs := [.tmp 2]) Try.call3 Try.func3 rfl rfl rfl (by simp only [List.length_cons, List.length_nil]; omega) (fun cx hcx hrd => ats_of ?_); simp only [argSlots, Nat.zero_add, Nat.reduceAdd]
  (repeat refine ats_seq ?_); refine ats_go (fix0 hcx) fun K hK => ?_; simp only [go_sem, seval]; (repeat refine aI (hb := ?_)); refine hK _ ?_; clear hK K
  (repeat refine ats_seq ?_); refine ats_go (fix0 hcx) fun K hK => ?_; simp only [go_sem, seval]
  refine fcall_data (hbig) (by first | rfl | simp only [areData, Aw.isData, areData_bsV, Bool.and_true]) ?_; simp only [go_sem, seval]
  refine hK _ ?_; clear hK K
  (repeat refine ats_seq ?_); refine ats_yes rfl trivial ?_
  (repeat refine ats_seq ?_); refine ats_go (fix0 hcx) fun K hK => ?_; simp only [go_sem, seval]; (repeat refine aI (hb := ?_)); refine hK _ ?_; clear hK K
  refine ats_ret (finB rfl ?_)
  rfl
 have hc : CodeOk c := ⟨by omega, hb⟩
 rw [decide_eq_false h4] at hbig
 obtain ⟨t, lt, hD⟩ := DrawRingFault_ok c hc
 obtain ⟨z, x, y, lz, lx, ly, hE⟩ := DrawMultiplyVectors_ok c hc
 have k1 := freshL1 (implRf_ok t)
 have k2 := pureL1 (specRf_ok t)
 have e4 := fl4 t
 generalize (flR t).1.getD [] = u at *
 generalize (flR t).2 = cu at *
 have ku : PureCall Try.prog 9 [.l1 u, .l1 u] (.bool true) := by simpa using likeInts_ok u u
 have kI := IsRing_ok t
 have kS := specIsR_ok t
 have m1 := freshL1 (implMv_ok z x y)
 have m2 := freshL1 (specMv_ok z x y)
 generalize (mvR z x y).1.getD [] = w at *
 generalize (mvR z x y).2 = cw at *
 have kw : PureCall Try.prog 9 [.l1 w, .l1 w] (.bool true) := by simpa using likeInts_ok w w
 refine PureCall.introR (n := 230) (rs := [.tmp 2]) Try.call3 Try.func3 rfl rfl rfl (by simp only [List.length_cons, List.length_nil]; omega) (fun cx hcx hrd => ats_of ?_); simp only [argSlots, Nat.zero_add, Nat.reduceAdd]
 (repeat refine ats_seq ?_); refine ats_go (fix0 hcx) fun K hK => ?_; simp only [go_sem, seval]; (repeat refine aI (hb := ?_)); refine hK _ ?_; clear hK K
 (repeat refine ats_seq ?_); refine ats_go (fix0 hcx) fun K hK => ?_; simp only [go_sem, seval]
 refine fcall_data (hbig) (by first | rfl | simp only [areData, Aw.isData, areData_bsV, Bool.and_true]) ?_; simp only [go_sem, seval]
 refine hK _ ?_; clear hK K
 (repeat refine ats_seq ?_); refine ats_no rfl trivial ?_
 refine ats_skip ?_
 (repeat refine ats_seq ?_); refine ats_go (fix0 hcx) fun K hK => ?_; simp only [go_sem, seval]
 refine fcall_data (hD) (by first | rfl | simp only [areData, Aw.isData, areData_bsV, Bool.and_true]) ?_; simp only [go_sem, seval]
 refine hK _ ?_; clear hK K
 (repeat refine ats_seq ?_); refine ats_go (fix0 hcx) fun K hK => ?_; simp only [go_sem, seval]
 first | refine fcall_fresh rfl (k1) ?_ | refine YR_intro (acall_fresh rfl (k1)) ?_
 simp only [go_sem, seval]
 refine hK _ ?_; clear hK K
 (repeat refine ats_seq ?_); refine ats_go (fix0 hcx) fun K hK => ?_; simp only [go_sem, seval]
 first | refine fcall_data (k2) rfl ?_ | refine YR_intro (acall_data (k2) rfl) ?_
 simp only [go_sem, seval]
 refine hK _ ?_; clear hK K
 (repeat refine ats_seq ?_); refine AT.ghost (st' := ⟨[(0, .lv (bsV c)), (2, .bool false), (3, .bptr 5 0), (4, .l1 u), (5, .int cu), (6, .l1 u), (7, .int cu)], [(5, .bx [.l3 t])]⟩) (ghost_to [] [(0, 5)]) ?_
 (repeat refine ats_seq ?_); refine ats_pick (fix0 hcx) mixed (by kernel_rfl) fun K hK => ?_; simp only [go_sem, seval]
 first | refine YR_intro (fun _ => acall_free rfl rfl (ku)) ?_ | refine YR_intro (acall_free rfl rfl (ku)) ?_
 simp only [go_sem, seval]
 first | refine YR_intro (fun _ => acall_free rfl rfl (kI)) ?_ | refine YR_intro (acall_free rfl rfl (kI)) ?_
 simp only [go_sem, seval]
 first | refine YR_intro (fun _ => acall_free rfl rfl (kS)) ?_ | refine YR_intro (acall_free rfl rfl (kS)) ?_
 simp only [go_sem, seval]
 first | refine YR_intro (fun _ => acall_free rfl rfl (kI)) ?_ | refine YR_intro (acall_free rfl rfl (kI)) ?_
 simp only [go_sem, seval]
 refine hK _ ?_; clear hK K
 (repeat refine ats_seq ?_); first | refine ats_ifn (p := _) rfl trivial (fun h1 => ?_) (fun h1 => ?_) | refine ats_ifp (p := _) rfl trivial (fun h1 => ?_) (fun h1 => ?_) | refine ats_cond rfl trivial (fun h1 => ?_) (fun h1 => ?_)
 ·simp [e4] at h1
 refine ats_skip ?_
 (repeat refine ats_seq ?_); refine ats_go (fix0 hcx) fun K hK => ?_; simp only [go_sem, seval]
 refine fcall_data (hE) (by first | rfl | simp only [areData, Aw.isData, areData_bsV, Bool.and_true]) ?_; simp only [go_sem, seval]
 refine hK _ ?_; clear hK K
 (repeat refine ats_seq ?_); refine ats_go (fix0 hcx) fun K hK => ?_; simp only [go_sem, seval]
 first | refine fcall_fresh rfl (m1) ?_ | refine YR_intro (acall_fresh rfl (m1)) ?_
 simp only [go_sem, seval]
 refine hK _ ?_; clear hK K
 (repeat refine ats_seq ?_); refine ats_go (fix0 hcx) fun K hK => ?_; simp only [go_sem, seval]
 first | refine fcall_fresh rfl (m2) ?_ | refine YR_intro (acall_fresh rfl (m2)) ?_
 simp only [go_sem, seval]
 refine hK _ ?_; clear hK K
 (repeat refine ats_seq ?_); refine ats_go (fix0 hcx) fun K hK => ?_; simp only [go_sem, seval]
 first | refine YR_intro (fun _ => acall_free rfl rfl (kw)) ?_ | refine YR_intro (acall_free rfl rfl (kw)) ?_
 simp only [go_sem, seval]
 refine hK _ ?_; clear hK K
 (repeat refine ats_seq ?_); first | refine ats_ifn (p := _) rfl trivial (fun h2 => ?_) (fun h2 => ?_) | refine ats_ifp (p := _) rfl trivial (fun h2 => ?_) (fun h2 => ?_) | refine ats_cond rfl trivial (fun h2 => ?_) (fun h2 => ?_)
 ·simp at h2
 refine ats_skip ?_
 cases hr : isRing t with
 | false =>
  rw [hr] at kI
  (repeat refine ats_seq ?_); refine ats_go (fix0 hcx) fun K hK => ?_; simp only [go_sem, seval]
  first | refine fcall_free rfl rfl (kI) ?_ | refine YR_intro (acall_free rfl rfl (kI)) ?_
  simp only [go_sem, seval]
  refine hK _ ?_; clear hK K
  (repeat refine ats_seq ?_); refine ats_yes rfl trivial ?_
  (repeat refine ats_seq ?_); refine ats_go (fix0 hcx) fun K hK => ?_; simp only [go_sem, seval]; (repeat refine aI (hb := ?_)); refine hK _ ?_; clear hK K
  refine ats_ret (finB rfl ?_)
  rfl
 | true =>
  rw [hr] at kI
  have hP := isRing_P hr
  have hcu := hP.cube
  have hn1 := hcu.1
  have hS := roll_ok c hc 4001
  have ok0 := rlS_ok (seed := 4001) hc
  generalize rlS c 4001 = s0 at *
  have hV1 := vector9_ok s0 ok0 t.length (by omega)
  have f1 := v9L_fact t.length [] s0 ok0 (fun x hx => by cases hx)
  generalize v9L t.length [] s0 = a at *
  have hV2 := vector9_ok a.2 f1.1 t.length (by omega)
  have f2 := v9L_fact t.length [] a.2 f1.1 (fun x hx => by cases hx)
  generalize v9L t.length [] a.2 = b at *
  have hV3 := vector9_ok b.2 f2.1 t.length (by omega)
  have f3 := v9L_fact t.length [] b.2 f2.1 (fun x hx => by cases hx)
  generalize v9L t.length [] b.2 = e at *
  have vx : ∀ {x : List Int}, x.length = ([] : List Int).length + t.length → (∀ z ∈ x, 0 ≤ z ∧ z ≤ 4) → VecX t.length 4 x := fun {x} hl h => ⟨by simpa using hl, fun i hi => h _ (getD_mem (by simp at hl; omega))⟩
  have va := vx f1.2.1 f1.2.2
  have vb := vx f2.2.1 f2.2.2
  have ve := vx f3.2.1 f3.2.2
  have vab := prodL_small (B := 16000) hcu va vb (by decide) (by decide)
  have vbe := prodL_small (B := 16000) hcu vb ve (by decide) (by decide)
  have up : ∀ {x : List Int} {X : Int}, VecX t.length X x → X ≤ 1000000 → VecX t.length 1000000 x := fun h hX => ⟨h.1, fun i hi => ⟨(h.2 i hi).1, Int.le_trans (h.2 i hi).2 hX⟩⟩
  have big6 : (t.length : Int) * ((t.length : Int) * 16000) ≤ 1000000 := by
   have h1 : (t.length : Int) * 16000 ≤ 96000 := by omega
   have h2 : (t.length : Int) * ((t.length : Int) * 16000) ≤ 6 * 96000 := Int.mul_le_mul (by omega) h1 (by omega) (by omega)
   omega
  have eM : ∀ {x y : List Int}, VecX t.length 1000000 x → VecX t.length 1000000 y → mvR t x y = (some (prodL t x y), 0) := fun hx hy => by
   unfold mvR
   rw [hr, bd_true ⟨hx, hy⟩]
   rfl
  have n1 := freshL1 (implMv_ok t a.1 b.1)
  rw [eM (up va (by decide)) (up vb (by decide))] at n1
  have n2 := freshL1 (implMv_ok t (prodL t a.1 b.1) e.1)
  rw [eM (up vab big6) (up ve (by decide))] at n2
  have n3 := freshL1 (implMv_ok t b.1 e.1)
  rw [eM (up vb (by decide)) (up ve (by decide))] at n3
  have n4 := freshL1 (implMv_ok t a.1 (prodL t b.1 e.1))
  rw [eM (up va (by decide)) (up vbe big6), ← prodL_assoc hP] at n4
  have n5 := freshL1 (implMv_ok t (oneV t.length 0) a.1)
  rw [eM (oneV_X (by decide)) (up va (by decide)), oneV_left hP va.1] at n5
  simp only [Option.getD_some] at n1 n2 n3 n4 n5
  have kD := implDu_ok t
  rw [hr] at kD
  simp only [if_true] at kD
  have ld := ds_length t
  have kl1 : PureCall Try.prog 9 [.l1 (prodL t (prodL t a.1 b.1) e.1), .l1 (prodL t (prodL t a.1 b.1) e.1)] (.bool true) := by simpa using likeInts_ok (prodL t (prodL t a.1 b.1) e.1) (prodL t (prodL t a.1 b.1) e.1)
  have kl2 : PureCall Try.prog 9 [.l1 a.1, .l1 a.1] (.bool true) := by simpa using likeInts_ok a.1 a.1
  have hat : ∀ i, i < t.length → ∀ j, j < t.length → decide (e3 t i j 0 = 1) = decide ((ds t).getD i 0 = j) := fun i hi j hj => by
   rw [at0 hP hi hj, ds_get hi]
   by_cases h : (j : Int) = dual t i
   ·rw [if_pos h]
    exact (decide_eq_true rfl).trans (decide_eq_true h.symm).symm
   ·rw [if_neg h]
    exact (decide_eq_false (by decide)).trans (decide_eq_false (fun h2 => h h2.symm)).symm
  generalize prodL t (prodL t a.1 b.1) e.1 = abe at *
  generalize prodL t a.1 b.1 = ab at *
  generalize prodL t b.1 e.1 = be at *
  generalize ds t = D at *
  have hm := hcu.2.2
  (repeat refine ats_seq ?_); refine ats_go (fix0 hcx) fun K hK => ?_; simp only [go_sem, seval]
  first | refine fcall_free rfl rfl (kI) ?_ | refine YR_intro (acall_free rfl rfl (kI)) ?_
  simp only [go_sem, seval]
  refine hK _ ?_; clear hK K
  (repeat refine ats_seq ?_); refine ats_no rfl trivial ?_
  refine ats_skip ?_
  (repeat refine ats_seq ?_); refine ats_go (fix0 hcx) fun K hK => ?_; simp only [go_sem, seval]; (repeat refine aI (hb := ?_)); refine hK _ ?_; clear hK K
  (repeat refine ats_seq ?_); refine ats_go (fix0 hcx) fun K hK => ?_; simp only [go_sem, seval]
  refine fcall_bx (hS) (k := ?_); simp only [Aw.ids, go_sem, seval]
  refine hK _ ?_; clear hK K
  (repeat refine ats_seq ?_); refine AT.ghost (st' := ⟨[(2, .bool false), (3, .bptr 5 0), (15, .int t.length), (16, .bptr 0 0)], [(0, srcB s0), (5, .bx [.l3 t])]⟩) (ghost_to [6] []) ?_
  (repeat refine ats_seq ?_); refine ats_go (fix0 hcx) fun K hK => ?_; simp only [go_sem, seval]
  refine fcall_src (hV1) rfl rfl ?_; simp only [go_sem, seval]
  refine fcall_src (hV2) rfl rfl ?_; simp only [go_sem, seval]
  refine fcall_src (hV3) rfl rfl ?_; simp only [go_sem, seval]
  refine hK _ ?_; clear hK K
  (repeat refine ats_seq ?_); refine AT.ghost (st' := ⟨[(2, .bool false), (3, .bptr 5 0), (15, .int t.length), (17, .l1 a.1), (18, .l1 b.1), (19, .l1 e.1)], [(5, .bx [.l3 t])]⟩) (ghost_to [0] []) ?_
  (repeat refine ats_seq ?_); refine ats_go (fix0 hcx) fun K hK => ?_; simp only [go_sem, seval]
  first | refine fcall_fresh rfl (n1) ?_ | refine YR_intro (acall_fresh rfl (n1)) ?_
  simp only [go_sem, seval]
  refine hK _ ?_; clear hK K
  (repeat refine ats_seq ?_); refine ats_go (fix0 hcx) fun K hK => ?_; simp only [go_sem, seval]
  first | refine fcall_fresh rfl (n2) ?_ | refine YR_intro (acall_fresh rfl (n2)) ?_
  simp only [go_sem, seval]
  refine hK _ ?_; clear hK K
  (repeat refine ats_seq ?_); refine ats_go (fix0 hcx) fun K hK => ?_; simp only [go_sem, seval]
  first | refine fcall_fresh rfl (n3) ?_ | refine YR_intro (acall_fresh rfl (n3)) ?_
  simp only [go_sem, seval]
  refine hK _ ?_; clear hK K
  (repeat refine ats_seq ?_); refine ats_go (fix0 hcx) fun K hK => ?_; simp only [go_sem, seval]
  first | refine fcall_fresh rfl (n4) ?_ | refine YR_intro (acall_fresh rfl (n4)) ?_
  simp only [go_sem, seval]
  refine hK _ ?_; clear hK K
  (repeat refine ats_seq ?_); refine ats_go (fix0 hcx) fun K hK => ?_; simp only [go_sem, seval]
  first | refine fcall_fresh rfl (kD) ?_ | refine YR_intro (acall_fresh rfl (kD)) ?_
  simp only [go_sem, seval]
  refine hK _ ?_; clear hK K
  (repeat refine ats_seq ?_); refine ats_go (fix0 hcx) fun K hK => ?_; simp only [go_sem, seval]; (repeat refine aI (hb := ?_)); refine hK _ ?_; clear hK K
  have eo : (List.replicate t.length (0 : Int)).set 0 1 = oneV t.length 0 := rfl
  have lz : (List.replicate t.length (0 : Int)).length = t.length := List.length_replicate
  (repeat refine ats_seq ?_); refine ats_go (fix0 hcx) fun K hK => ?_; simp only [go_sem, seval]
  (repeat refine aI (hb := ?_))
  rw [eo]
  refine hK _ ?_; clear hK K
  (repeat refine ats_seq ?_); refine ats_go (fix0 hcx) fun K hK => ?_; simp only [go_sem, seval]
  first | refine fcall_fresh rfl (n5) ?_ | refine YR_intro (acall_fresh rfl (n5)) ?_
  simp only [go_sem, seval]
  refine hK _ ?_; clear hK K
  (repeat refine ats_seq ?_); refine AT.ghost (st' := ⟨[(2, .bool false), (3, .bptr 5 0), (15, .int t.length), (17, .l1 a.1), (21, .int 0), (22, .l1 abe), (23, .int 0), (25, .int 0), (26, .l1 abe), (27, .int 0), (28, .l1 D), (29, .int 0), (31, .l1 a.1), (32, .int 0)], [(5, .bx [.l3 t])]⟩) (ghost_to [6] []) ?_
  (repeat refine ats_seq ?_); refine ats_go (fix0 hcx) fun K hK => ?_; simp only [go_sem, seval]
  first | refine YR_intro (fun _ => acall_free rfl rfl (kl1)) ?_ | refine YR_intro (acall_free rfl rfl (kl1)) ?_
  simp only [go_sem, seval]
  first | refine YR_intro (fun _ => acall_free rfl rfl (kl2)) ?_ | refine YR_intro (acall_free rfl rfl (kl2)) ?_
  simp only [go_sem, seval]
  refine hK _ ?_; clear hK K
  (repeat refine ats_seq ?_); first | refine ats_ifn (p := _) rfl trivial (fun h3 => ?_) (fun h3 => ?_) | refine ats_ifp (p := _) rfl trivial (fun h3 => ?_) (fun h3 => ?_) | refine ats_cond rfl trivial (fun h3 => ?_) (fun h3 => ?_)
  ·omega
  refine ats_skip ?_
  (repeat refine ats_seq ?_); refine ats_go (fix0 hcx) fun K hK => ?_; simp only [go_sem, seval]; (repeat refine aI (hb := ?_)); refine hK _ ?_; clear hK K
  (repeat refine ats_seq ?_); refine ats_loop (fun i : Nat => ⟨[(2, .bool false), (3, .bptr 5 0), (15, .int t.length), (28, .l1 D), (33, .int i)], [(5, .bx [.l3 t])]⟩) (fun i => i ≤ t.length) (fun i => t.length - i) 0 (Nat.zero_le _) (by refine And.intro ?_ rfl; simp only [leS, Nat.reduceEqDiff, ↓reduceIte, true_and, and_true]; repeat' (first | rfl | with_reducible refine And.intro ?_ ?_ | omega)) (fun i hi => ?_)
  (repeat refine ats_seq ?_); refine ats_go (fix0 hcx) fun K hK => ?_; simp only [go_sem, seval]; (repeat refine aI (hb := ?_)); refine hK _ ?_; clear hK K
  (repeat refine ats_seq ?_); first | refine ats_ifn (p := _) rfl trivial (fun h5 => ?_) (fun h5 => ?_) | refine ats_ifp (p := _) rfl trivial (fun h5 => ?_) (fun h5 => ?_) | refine ats_cond rfl trivial (fun h5 => ?_) (fun h5 => ?_)
  ·have mi := hm i (by omega)
   have li := mi.1
   refine ats_skip ?_
   (repeat refine ats_seq ?_); refine ats_block ?_
   (repeat refine ats_seq ?_); refine ats_go (fix0 hcx) fun K hK => ?_; simp only [go_sem, seval]; (repeat refine aI (hb := ?_)); refine hK _ ?_; clear hK K
   (repeat refine ats_seq ?_); refine ats_loop (fun j : Nat => ⟨[(2, .bool false), (3, .bptr 5 0), (15, .int t.length), (28, .l1 D), (33, .int i), (34, .int j)], [(5, .bx [.l3 t])]⟩) (fun j => j ≤ t.length) (fun j => t.length - j) 0 (Nat.zero_le _) (by refine And.intro ?_ rfl; simp only [leS, Nat.reduceEqDiff, ↓reduceIte, true_and, and_true]; repeat' (first | rfl | with_reducible refine And.intro ?_ ?_ | omega)) (fun j hj => ?_)
   (repeat refine ats_seq ?_); refine ats_go (fix0 hcx) fun K hK => ?_; simp only [go_sem, seval]; (repeat refine aI (hb := ?_)); refine hK _ ?_; clear hK K
   (repeat refine ats_seq ?_); first | refine ats_ifn (p := _) rfl trivial (fun h6 => ?_) (fun h6 => ?_) | refine ats_ifp (p := _) rfl trivial (fun h6 => ?_) (fun h6 => ?_) | refine ats_cond rfl trivial (fun h6 => ?_) (fun h6 => ?_)
   ·have rj := mi.row (show j < t.length by omega)
    have ha := hat i (by omega) j (by omega)
    simp only [e3] at ha
    refine ats_skip ?_
    (repeat refine ats_seq ?_); refine ats_block ?_
    (repeat refine ats_seq ?_); refine ats_pick (fix0 hcx) mixed (by kernel_rfl) fun K hK => ?_; simp only [go_sem, seval]; (repeat refine aI (hb := ?_)); refine hK _ ?_; clear hK K
    (repeat refine ats_seq ?_); first | refine ats_ifn (p := _) rfl trivial (fun h7 => ?_) (fun h7 => ?_) | refine ats_ifp (p := _) rfl trivial (fun h7 => ?_) (fun h7 => ?_) | refine ats_cond rfl trivial (fun h7 => ?_) (fun h7 => ?_)
    ·simp at h7
     exact absurd (by simpa using ha) h7
    ·refine ats_skip ?_
     (repeat refine ats_seq ?_); refine ats_go (fix0 hcx) fun K hK => ?_; simp only [go_sem, seval]; (repeat refine aI (hb := ?_)); refine hK _ ?_; clear hK K
     refine ⟨j + 1,  by omega, by omega, .inl ⟨by simp only [leS, Nat.reduceEqDiff, ↓reduceIte, true_and, and_true]; omega,  rfl⟩⟩
   ·obtain rfl : j = t.length := by omega
    refine ats_exit (lq_x ?_)
    (repeat refine ats_seq ?_); refine ats_go (fix0 hcx) fun K hK => ?_; simp only [go_sem, seval]; (repeat refine aI (hb := ?_)); refine hK _ ?_; clear hK K
    refine ⟨i + 1,  by omega, by omega, .inl ⟨by simp only [leS, Nat.reduceEqDiff, ↓reduceIte, true_and, and_true]; omega,  rfl⟩⟩
  ·obtain rfl : i = t.length := by omega
   refine ats_exit (lq_x ?_)
   (repeat refine ats_seq ?_); refine ats_go (fix0 hcx) fun K hK => ?_; simp only [go_sem, seval]; (repeat refine aI (hb := ?_)); refine hK _ ?_; clear hK K
   refine ats_ret (finB rfl ?_)
   rfl
end Go.Proofs.Ytppoaacplncppaa
