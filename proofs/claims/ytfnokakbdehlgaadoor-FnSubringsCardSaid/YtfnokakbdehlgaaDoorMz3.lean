import Derived.Test.YtfnokakbdehlgaaDoorMz2
import Derived.Test.YtfnokakbdehlgaaDoorQd2
import Derived.Test.YtfnokakbdehlgaaDoorWx4
import Derived.Test.YtfnokakbdehlgaaDoorWz1
import Derived.Test.YtfnokakbdehlgaaDoorJz4
import Derived.Test.YtfnokakbdehlgaaDoorDz1
import Derived.Test.YtfnokakbdehlgaaDoorHd
import Derived.Test.YtfnokakbdehlgaaDoorWx1
set_option linter.unusedSimpArgs false
set_option linter.unusedVariables false
namespace Go.Proofs.YtfnokakbdehlgaaDoor
open Go Go.Aw Go.Pl
set_option maxRecDepth 100000 in
theorem closed_ok (t : Cu) (h : RingP t) (s : Nat) (hs : s < 2 ^ t.length) : PureCall Tryd.prog 52 [.agg [.l3 t], .int s] (.int (clo t s : Nat)) := by
 have hc := h.cube
 have h16 := hc.2.1
 have hb := full_in h16 hs
 have hS := supports_ok t hc
 have hD := duals_ok t hc
 have e1 := or1 hb
 have h1 : s ||| 1 < 2 ^ t.length := or_lt hs (by have := Nat.pow_lt_pow_right (show 1 < 2 by decide) h.pos; simpa using this)
 have hLb := fun u hu => labelsIn_ok t.length h16 u hu
 have ld := ds_length t
 have dg : ∀ i, i < t.length → (ds t).getD i 0 = (dN t i : Nat) := fun i hi => by rw [ds_get hi, h.dI hi]
 have sg := fun i hi j hj => sup_get (t := t) (i := i) (j := j) hi hj
 have sr := fun i hi => sup_row (t := t) (i := i) hi
 have sl := sup_len (t := t)
 rw [← clo_or1]
 generalize ds t = D at *
 generalize supL t = S at *
 refine PureCall.intro (n := 56) (rs := [.tmp 4]) Tryd.call52 Tryd.func52 rfl rfl rfl (by simp only [List.length_cons, List.length_nil]; omega) (fun cx hcx => ats_of ?_); simp only [argSlots, Nat.zero_add, Nat.reduceAdd]
 refine gA ?_
 (repeat refine ats_seq ?_); refine ats_pick (fix0 hcx) mixed (by kernel_rfl) fun K hK => ?_; simp only [go_sem, seval]
 first | refine fcall_fresh rfl (hS) ?_ | refine YR_intro (acall_fresh rfl (hS)) ?_
 simp only [go_sem, seval]
 first | refine fcall_fresh rfl (hD) ?_ | refine YR_intro (acall_fresh rfl (hD)) ?_
 simp only [go_sem, seval]
 refine hK _ ?_; clear hK K
 refine gC fun K hK => ?_
 rw [e1]
 refine hK _ ?_; clear hK K
 have h0 : (s ||| 1).testBit 0 = true := or_bit.2 (.inr (by decide))
 generalize s ||| 1 = s0 at *
 clear e1 hb hs hS hD
 (repeat refine ats_seq ?_); refine ats_loop (fun u : Nat => ⟨[(1, .int u), (5, .l2 S), (6, .l1 D)], [(0, .bx [.l3 t])]⟩) (fun u => u < 2 ^ t.length ∧ u.testBit 0 = true ∧ Sub s0 u ∧ Sub u (clo t s0)) (fun u => 2 ^ t.length - u) s0 ⟨h1, h0, Sub.refl s0, clo_sub h1⟩ (by
  refine And.intro ?_ rfl; simp only [leS, Nat.reduceEqDiff, ↓reduceIte, true_and, and_true]
  done) (fun u hu => ?_)
 obtain ⟨hu, hz, k1, k2⟩ := hu
 have hub := full_in h16 hu
 have hL := hLb u hu
 have lI : (lbI t.length u).length = (lbl t.length u).length := lbI_len
 have gl : ∀ a, a < (lbl t.length u).length → ∃ x : Nat, x < t.length ∧ (lbI t.length u).getD a 0 = x ∧ (lbl t.length u).getD a 0 = x := fun a ha => ⟨_, (lbl_get ha).1, lbI_get ha, rfl⟩
 have l1 := lbl_len (n := t.length) (s := u)
 generalize hLd : lbI t.length u = L at *
 (repeat refine ats_seq ?_); refine ats_block ?_
 refine gA ?_
 refine gC fun K hK => ?_
 first | refine fcall_fresh rfl (hL) ?_ | refine YR_intro (acall_fresh rfl (hL)) ?_
 simp only [go_sem, seval]
 (repeat refine aI (hb := ?_))
 refine hK _ ?_; clear hK K
 rw [lI]
 (repeat refine ats_seq ?_); refine ats_loop (fun p : Nat × Nat => ⟨[(1, .int u), (5, .l2 S), (6, .l1 D), (7, .int p.2), (20, .l1 L), (21, .int (lbl t.length u).length), (22, .int p.1)], [(0, .bx [.l3 t])]⟩) (fun p => p.1 ≤ (lbl t.length u).length ∧ Cl t u p.2 p.1 0) (fun p => (lbl t.length u).length - p.1) (0, u) ⟨Nat.zero_le _, Cl.start hu⟩ (by
  refine And.intro ?_ rfl; simp only [leS, Nat.reduceEqDiff, ↓reduceIte, true_and, and_true]
  rfl) (fun p hp => ?_)
 obtain ⟨a, o⟩ := p
 obtain ⟨ha, hC⟩ := hp
 dsimp only at ha hC ⊢
 refine gA ?_
 refine gI (fun hla => ?_) fun hla => ?_
 ·have ha2 : a < (lbl t.length u).length := by omega
  obtain ⟨x, hx, x1, x2⟩ := gl a ha2
  have dx := dg x hx
  have ddx := h.dlt hx
  have esh := shlI_one (show dN t x ≤ 62 by omega)
  have eo := orS (full_in h16 hC.lt) (full_in h16 (pow_lt ddx))
  have hC := hC.dualP h ha2
  rw [x2] at hC
  have hdd : (o ||| 2 ^ dN t x).testBit (dN t x) = true := or_bit.2 (.inr (pow_bit.2 rfl))
  have srx := sr x hx
  refine ats_skip ?_
  (repeat refine ats_seq ?_); refine ats_block ?_
  refine gC fun K hK => ?_
  rw [x1]
  (repeat refine aI (hb := ?_))
  refine hK _ ?_; clear hK K
  refine gC fun K hK => ?_
  try simp only [Int.toNat_natCast]
  rw [dx, esh, eo]
  (repeat refine aI (hb := ?_))
  refine hK _ ?_; clear hK K
  refine gC fun K hK => ?_
  first | refine fcall_fresh rfl (hL) ?_ | refine YR_intro (acall_fresh rfl (hL)) ?_
  simp only [go_sem, seval]
  (repeat refine aI (hb := ?_))
  refine hK _ ?_; clear hK K
  rw [lI]
  generalize o ||| 2 ^ dN t x = o at hC hdd ⊢
  clear eo
  (repeat refine ats_seq ?_); refine ats_loop (fun p : Nat × Nat => ⟨[(1, .int u), (5, .l2 S), (6, .l1 D), (7, .int p.2), (9, .int x), (20, .l1 L), (21, .int (lbl t.length u).length), (22, .int a), (34, .l1 L), (35, .int (lbl t.length u).length), (36, .int p.1)], [(0, .bx [.l3 t])]⟩) (fun p => p.1 ≤ (lbl t.length u).length ∧ Cl t u p.2 a p.1 ∧ p.2.testBit (dN t x) = true) (fun p => (lbl t.length u).length - p.1) (0, o) ⟨Nat.zero_le _, hC, hdd⟩ (by
   refine And.intro ?_ rfl; simp only [leS, Nat.reduceEqDiff, ↓reduceIte, true_and, and_true]
   rfl) (fun p hp => ?_)
  obtain ⟨b, o⟩ := p
  obtain ⟨hb, hC, hdd⟩ := hp
  dsimp only at hb hC hdd ⊢
  refine gA ?_
  refine gI (fun hlb => ?_) fun hlb => ?_
  ·have hb2 : b < (lbl t.length u).length := by omega
   obtain ⟨y, hy, y1, y2⟩ := gl b hb2
   have sxy := sg x hx y hy
   have eo := orS (full_in h16 hC.lt) (full_in h16 (suS_lt (t := t) (i := x) (j := y)))
   have hC2 := hC.incB ha2 hb2
   rw [x2, y2] at hC2
   refine ats_skip ?_
   (repeat refine ats_seq ?_); refine ats_block ?_
   refine gC fun K hK => ?_
   rw [y1]
   (repeat refine aI (hb := ?_))
   refine hK _ ?_; clear hK K
   refine gC fun K hK => ?_
   try simp only [Int.toNat_natCast]
   rw [sxy, eo]
   (repeat refine aI (hb := ?_))
   refine hK _ ?_; clear hK K
   refine gB ?_
   refine ⟨(b + 1, o ||| suS t x y),  ⟨by dsimp only; omega, hC2, or_bit.2 (.inl hdd)⟩, by omega, .inl ⟨by simp only [leS, Nat.reduceEqDiff, ↓reduceIte, true_and, and_true]; omega,  rfl⟩⟩
  ·have hC3 := hC.incA (by omega) (by rw [x2]; exact hdd)
   refine ats_exit (lq_x ?_)
   refine gB ?_
   refine ⟨(a + 1, o),  ⟨by dsimp only; omega, hC3⟩, by omega, .inl ⟨by simp only [leS, Nat.reduceEqDiff, ↓reduceIte, true_and, and_true]; omega,  rfl⟩⟩
 ·obtain rfl : a = (lbl t.length u).length := by omega
  have e := hC.fin h hu hz
  subst e
  refine ats_exit (lq_x ?_)
  refine gA ?_
  refine gI (fun he => ?_) fun he => ?_
  ·have e2 := clo_of h k1 k2 ((h.spr_clos hu).1 (by omega))
   refine gA ?_
   refine ats_ret (finI rfl ?_)
   rw [← e2]
  ·have hg := spr_grow hu (fun e => he (by rw [e]))
   have hlt := spr_lt (t := t) (s := u)
   refine ats_skip ?_
   refine gA ?_
   refine ⟨spr t u,  ⟨spr_lt, spr_sub hu 0 hz, k1.trans (spr_sub hu), spr_in h.clo_clos k2⟩, by omega, .inl ⟨by simp only [leS, Nat.reduceEqDiff, ↓reduceIte, true_and, and_true]; done,  rfl⟩⟩
end Go.Proofs.YtfnokakbdehlgaaDoor
namespace Go.Proofs.YtfnokakbdehlgaaDoor
open Go Go.Aw Go.Pl
theorem implAdj_ok (t : Cu) (h : RingP t) : PureCall Tryd.prog 50 [.agg [.l3 t]] (.int (adj t : Nat)) := by
 have hc := h.cube
 have h16 := hc.2.1
 have hS := supports_ok t hc
 have hD := duals_ok t hc
 have ld := ds_length t
 have dg : ∀ i, i < t.length → (ds t).getD i 0 = (dN t i : Nat) := fun i hi => by rw [ds_get hi, h.dI hi]
 have sg := fun i hi j hj => sup_get (t := t) (i := i) (j := j) hi hj
 have sr := fun i hi => sup_row (t := t) (i := i) hi
 have sl := sup_len (t := t)
 generalize ds t = D at *
 generalize supL t = S at *
 refine PureCall.intro (n := 30) (rs := [.tmp 2]) Tryd.call50 Tryd.func50 rfl rfl rfl (by simp only [List.length_cons, List.length_nil]; omega) (fun cx hcx => ats_of ?_); simp only [argSlots, Nat.zero_add, Nat.reduceAdd]
 refine gA ?_
 refine gC fun K hK => ?_
 first | refine fcall_fresh rfl (hS) ?_ | refine YR_intro (acall_fresh rfl (hS)) ?_
 simp only [go_sem, seval]
 refine hK _ ?_; clear hK K
 refine gC fun K hK => ?_
 first | refine fcall_fresh rfl (hD) ?_ | refine YR_intro (acall_fresh rfl (hD)) ?_
 simp only [go_sem, seval]
 (repeat refine aI (hb := ?_))
 refine hK _ ?_; clear hK K
 rw [ld]
 (repeat refine ats_seq ?_); refine ats_loop (fun p : Nat × Nat => ⟨[(1, .bptr 0 0), (3, .l2 S), (4, .int p.2), (10, .l1 D), (11, .int t.length), (12, .int p.1)], [(0, .bx [.l3 t])]⟩) (fun p => p.1 ≤ t.length ∧ p.2 = setN t.length (fun k => ∃ i, i < p.1 ∧ i < t.length ∧ Oc t i (dN t i) k)) (fun p => t.length - p.1) (0, 0) ⟨Nat.zero_le _, bits_ext fun k => by dsimp only; rw [setN_bit]; simp⟩ (by
  refine And.intro ?_ rfl; simp only [leS, Nat.reduceEqDiff, ↓reduceIte, true_and, and_true]
  exact ⟨rfl, rfl⟩) (fun p hp => ?_)
 obtain ⟨i, o⟩ := p
 obtain ⟨hi, ho⟩ := hp
 dsimp only at hi ho ⊢
 have hlo : o < 2 ^ t.length := by rw [ho]; exact setN_lt
 refine gA ?_
 refine gI (fun hli => ?_) fun hli => ?_
 ·have hi2 : i < t.length := by omega
  have di := dg i hi2
  have ddi := h.dlt hi2
  have sri := sr i hi2
  have sgi := sg i hi2 _ ddi
  have eo := orS (full_in h16 hlo) (full_in h16 (suS_lt (t := t) (i := i) (j := dN t i)))
  have st := adU_step ho hi2
  refine ats_skip ?_
  (repeat refine ats_seq ?_); refine ats_block ?_
  refine gC fun K hK => ?_
  rw [di]
  (repeat refine aI (hb := ?_))
  refine hK _ ?_; clear hK K
  refine gC fun K hK => ?_
  try simp only [Int.toNat_natCast]
  rw [sgi, eo]
  (repeat refine aI (hb := ?_))
  refine hK _ ?_; clear hK K
  refine gB ?_
  refine ⟨(i + 1, o ||| suS t i (dN t i)),  ⟨by dsimp only; omega, st⟩, by omega, .inl ⟨by simp only [leS, Nat.reduceEqDiff, ↓reduceIte, true_and, and_true]; omega,  rfl⟩⟩
 ·obtain rfl : i = t.length := by omega
  have e : o = adU t := by
   rw [ho]
   exact setN_congr fun k _ => ⟨fun ⟨i, _, h⟩ => ⟨i, h⟩, fun ⟨i, h⟩ => ⟨i, h.1, h⟩⟩
  subst e
  have hC := closed_ok t h (adU t) adU_lt
  refine ats_exit (lq_x ?_)
  refine gC fun K hK => ?_
  first | refine fcall_data (hC) rfl ?_ | refine YR_intro (acall_data (hC) rfl) ?_
  simp only [go_sem, seval]
  refine hK _ ?_; clear hK K
  refine ats_ret (finI rfl ?_)
  rfl
theorem setCode_ok (t : Cu) (x : Int) : PureCall Tryd.prog 51 [.agg [.l3 t], .int x] (.int (scA t x)) := by
 have h0 := IsRing_ok t
 cases hr : isRing t with
 | false =>
  rw [hr] at h0
  have e : scA t x = 1 := by unfold scA; rw [hr]; rfl
  rw [e]
  refine PureCall.intro (n := 12) (rs := [.tmp 4]) Tryd.call51 Tryd.func51 rfl rfl rfl (by simp only [List.length_cons, List.length_nil]; omega) (fun cx hcx => ats_of ?_); simp only [argSlots, Nat.zero_add, Nat.reduceAdd]
  refine gA ?_
  refine gC fun K hK => ?_
  first | refine fcall_data (h0) rfl ?_ | refine YR_intro (acall_data (h0) rfl) ?_
  simp only [go_sem, seval]
  refine hK _ ?_; clear hK K
  (repeat refine ats_seq ?_); refine ats_yes rfl trivial ?_
  refine gA ?_
  refine ats_ret (finI rfl ?_)
  rfl
 | true =>
  rw [hr] at h0
  have hI := isSet_ok t (isRing_P hr).cube.2.1 x
  have e : scA t x = if 0 ≤ x ∧ x ≤ (2 ^ t.length - 1 : Nat) then 0 else 2 := by unfold scA; rw [hr]; rfl
  rw [e]
  refine PureCall.intro (n := 12) (rs := [.tmp 4]) Tryd.call51 Tryd.func51 rfl rfl rfl (by simp only [List.length_cons, List.length_nil]; omega) (fun cx hcx => ats_of ?_); simp only [argSlots, Nat.zero_add, Nat.reduceAdd]
  refine gA ?_
  refine gC fun K hK => ?_
  first | refine fcall_data (h0) rfl ?_ | refine YR_intro (acall_data (h0) rfl) ?_
  simp only [go_sem, seval]
  refine hK _ ?_; clear hK K
  (repeat refine ats_seq ?_); refine ats_no rfl trivial ?_
  refine ats_skip ?_
  refine gC fun K hK => ?_
  first | refine fcall_data (hI) rfl ?_ | refine YR_intro (acall_data (hI) rfl) ?_
  simp only [go_sem, seval]
  refine hK _ ?_; clear hK K
  refine gI (fun hx => ?_) fun hx => ?_
  ·refine gA ?_
   refine ats_ret (finI rfl ?_)
   rw [if_neg (fun hh => by simp [hh.1, hh.2] at hx)]
  ·refine ats_skip ?_
   refine gA ?_
   refine ats_ret (finI rfl ?_)
   simp only [Bool.not_eq_false', Bool.and_eq_true, decide_eq_true_eq] at hx
   rw [if_pos hx]
theorem implIsS_ok (t : Cu) (x : Int) : PureCall Tryd.prog 30 [.agg [.l3 t], .int x] (.tup [.bool (isS t x).1, .int (isS t x).2]) := by
 have h0 := setCode_ok t x
 by_cases hc : scA t x = 0
 ·have e : isS t x = (bd (ClosP t x.toNat), 0) := if_pos hc
  rw [e]
  obtain ⟨hr, hx0, hlt, ex⟩ := scA_ok hc
  rw [hc] at h0
  have h := isRing_P hr
  have hI := closed_ok t h x.toNat hlt
  rw [ex] at hI
  have eb : decide (((clo t x.toNat : Nat) : Int) = x) = bd (ClosP t x.toNat) := by
   by_cases hC : ClosP t x.toNat
   ·rw [bd_true hC, clo_eq hC, ex]; exact decide_eq_true rfl
   ·rw [bd_false hC]
    exact decide_eq_false fun e2 => hC (by
     have : clo t x.toNat = x.toNat := by omega
     rw [← this]
     exact h.clo_clos)
  rw [← eb]
  refine PureCall.intro (n := 18) (rs := [.tmp 4, .tmp 5]) Tryd.call30 Tryd.func30 rfl rfl rfl (by simp only [List.length_cons, List.length_nil]; omega) (fun cx hcx => ats_of ?_); simp only [argSlots, Nat.zero_add, Nat.reduceAdd]
  refine gA ?_
  refine gC fun K hK => ?_
  first | refine fcall_data (h0) rfl ?_ | refine YR_intro (acall_data (h0) rfl) ?_
  simp only [go_sem, seval]
  refine hK _ ?_; clear hK K
  refine gA ?_
  (repeat refine ats_seq ?_); refine ats_no rfl trivial ?_
  refine ats_skip ?_
  refine gC fun K hK => ?_
  first | refine fcall_data (hI) rfl ?_ | refine YR_intro (acall_data (hI) rfl) ?_
  simp only [go_sem, seval]
  refine hK _ ?_; clear hK K
  exact ats_ret (fin2 trivial trivial rfl)
 ·have e : isS t x = (false, scA t x) := if_neg hc
  rw [e]
  refine PureCall.intro (n := 18) (rs := [.tmp 4, .tmp 5]) Tryd.call30 Tryd.func30 rfl rfl rfl (by simp only [List.length_cons, List.length_nil]; omega) (fun cx hcx => ats_of ?_); simp only [argSlots, Nat.zero_add, Nat.reduceAdd]
  refine gA ?_
  refine gC fun K hK => ?_
  first | refine fcall_data (h0) rfl ?_ | refine YR_intro (acall_data (h0) rfl) ?_
  simp only [go_sem, seval]
  refine hK _ ?_; clear hK K
  refine gA ?_
  refine gI (fun hx => ?_) fun hx => ?_
  ·refine gA ?_
   exact ats_ret (fin2 trivial trivial rfl)
  ·exact (hc (by first | exact hx | simpa using hx)).elim
theorem implSf_ok (t : Cu) (xs : List Int) (hxl : xs.length ≤ 1048576) : PureCall Tryd.prog 38 [.agg [.l3 t], .l1 xs] (.tup [.int (sfR t xs).1, .int (sfR t xs).2]) := by
 have h0 := IsRing_ok t
 cases hr : isRing t with
 | false =>
  rw [hr] at h0
  have e : sfR t xs = (0, 1) := by unfold sfR; rw [hr]; rfl
  rw [e]
  refine PureCall.intro (n := 30) (rs := [.tmp 4, .tmp 5]) Tryd.call38 Tryd.func38 rfl rfl rfl (by simp only [List.length_cons, List.length_nil]; omega) (fun cx hcx => ats_of ?_); simp only [argSlots, Nat.zero_add, Nat.reduceAdd]
  refine gA ?_
  refine gC fun K hK => ?_
  first | refine fcall_data (h0) rfl ?_ | refine YR_intro (acall_data (h0) rfl) ?_
  simp only [go_sem, seval]
  refine hK _ ?_; clear hK K
  (repeat refine ats_seq ?_); refine ats_yes rfl trivial ?_
  refine gA ?_
  exact ats_ret (fin2 trivial trivial rfl)
 | true =>
  have h := isRing_P hr
  have h16 := h.cube.2.1
  rw [hr] at h0
  obtain ⟨q, eq⟩ : ∃ q, sfR t xs = q := ⟨_, rfl⟩
  rw [eq]
  unfold sfR at eq
  rw [hr, if_pos rfl] at eq
  refine PureCall.intro (n := 30) (rs := [.tmp 4, .tmp 5]) Tryd.call38 Tryd.func38 rfl rfl rfl (by simp only [List.length_cons, List.length_nil]; omega) (fun cx hcx => ats_of ?_); simp only [argSlots, Nat.zero_add, Nat.reduceAdd]
  refine gA ?_
  refine gC fun K hK => ?_
  first | refine fcall_data (h0) rfl ?_ | refine YR_intro (acall_data (h0) rfl) ?_
  simp only [go_sem, seval]
  refine hK _ ?_; clear hK K
  (repeat refine ats_seq ?_); refine ats_no rfl trivial ?_
  refine ats_skip ?_
  refine gA ?_
  refine gA ?_
  (repeat refine ats_seq ?_); refine ats_loop (fun p : Nat × Nat => ⟨[(2, .bptr 0 0), (6, .int p.2), (12, .l1 xs), (13, .int xs.length), (14, .int p.1)], [(0, .bx [.l3 t])]⟩) (fun p => p.1 ≤ xs.length ∧ p.2 = frS' t.length xs p.1 ∧ ∀ i, i < p.1 → lblB t (xs.getD i 0) = true) (fun p => xs.length - p.1) (0, 0) ⟨Nat.zero_le _, by rw [frS'_zero], fun i hi => absurd hi (Nat.not_lt_zero i)⟩ (by
   refine And.intro ?_ rfl; simp only [leS, Nat.reduceEqDiff, ↓reduceIte, true_and, and_true]
   exact ⟨rfl, rfl⟩) (fun p hp => ?_)
  obtain ⟨i, o⟩ := p
  obtain ⟨hi, ho, hall⟩ := hp
  dsimp only at hi ho hall ⊢
  have hlo : o < 2 ^ t.length := by rw [ho]; exact frS'_lt
  refine gA ?_
  refine gI (fun hli => ?_) fun hli => ?_
  ·have hL := isLabel_ok t h16 (xs.getD i 0)
   refine ats_skip ?_
   (repeat refine ats_seq ?_); refine ats_block ?_
   refine gB ?_
   refine gC fun K hK => ?_
   first | refine fcall_data (hL) rfl ?_ | refine YR_intro (acall_data (hL) rfl) ?_
   simp only [go_sem, seval]
   refine hK _ ?_; clear hK K
   refine gI (fun hx => ?_) fun hx => ?_
   ·refine gA ?_
    rw [if_neg (fun hh => by rw [bd_iff.1 hh i (by omega)] at hx; cases hx)] at eq
    subst eq
    exact ats_ret (fin2 trivial trivial rfl)
   ·have hx : lblB t (xs.getD i 0) = true := by simpa using hx
    have hb := lblB_iff.1 hx
    obtain ⟨x, ex⟩ : ∃ x : Nat, xs.getD i 0 = (x : Int) := ⟨(xs.getD i 0).toNat, by omega⟩
    rw [ex] at hb
    have esh := shlI_one (show x ≤ 62 by omega)
    have eo := orS (full_in h16 hlo) (full_in h16 (pow_lt (show x < t.length by omega)))
    refine ats_skip ?_
    refine gC fun K hK => ?_
    rw [ex, esh, eo]
    (repeat refine aI (hb := ?_))
    refine hK _ ?_; clear hK K
    refine gB ?_
    refine ⟨(i + 1, o ||| 2 ^ x),  ⟨by dsimp only; omega, by dsimp only; rw [ho, ← frS'_step (show x < t.length by omega) ex], fun a ha => by dsimp only at ha; by_cases e : a = i; subst e; exact hx; exact hall a (by omega)⟩, by omega, .inl ⟨by simp only [leS, Nat.reduceEqDiff, ↓reduceIte, true_and, and_true]; omega,  rfl⟩⟩
  ·obtain rfl : i = xs.length := by omega
   have hF := closed_ok t h o hlo
   rw [ho] at hF hlo
   rw [ho]
   refine ats_exit (lq_x ?_)
   refine gC fun K hK => ?_
   first | refine fcall_data (hF) rfl ?_ | refine YR_intro (acall_data (hF) rfl) ?_
   simp only [go_sem, seval]
   refine hK _ ?_; clear hK K
   rw [if_pos (bd_true hall)] at eq
   subst eq
   exact ats_ret (fin2 trivial trivial rfl)
end Go.Proofs.YtfnokakbdehlgaaDoor
namespace Go.Proofs.YtfnokakbdehlgaaDoor
open Go Go.Aw Go.Pl
attribute [local go_sem] pl_fin pl_stop pl_one pl_alt PK_ap pickO List.getElem?_toArray List.getElem?_cons_zero List.getElem?_cons_succ
theorem isClosed_ok (t : Cu) (h : RingP t) (s : Nat) (hs : s < 2 ^ t.length) (h0 : s.testBit 0 = true) : PureCall Tryd.prog 90 [.l2 (supL t), .l1 (ds t), .int s] (.bool (bd (ClosP t s))) := by
 have h16 := h.cube.2.1
 have hb := full_in h16 hs
 have hL := labelsIn_ok t.length h16 s hs
 have ld := ds_length t
 have dg : ∀ i, i < t.length → (ds t).getD i 0 = (dN t i : Nat) := fun i hi => by rw [ds_get hi, h.dI hi]
 have sg := fun i hi j hj => sup_get (t := t) (i := i) (j := j) hi hj
 have sr := fun i hi => sup_row (t := t) (i := i) hi
 have sl := sup_len (t := t)
 have lI : (lbI t.length s).length = (lbl t.length s).length := lbI_len
 have gl : ∀ a, a < (lbl t.length s).length → ∃ x : Nat, x < t.length ∧ s.testBit x = true ∧ (lbI t.length s).getD a 0 = x ∧ (lbl t.length s).getD a 0 = x := fun a ha => ⟨_, (lbl_get ha).1, (lbl_get ha).2, lbI_get ha, rfl⟩
 have l1 := lbl_len (n := t.length) (s := s)
 obtain ⟨q, eq⟩ : ∃ q, bd (ClosP t s) = q := ⟨_, rfl⟩
 rw [eq]
 generalize ds t = D at *
 generalize supL t = S at *
 generalize lbI t.length s = L at *
 refine PureCall.intro (n := 46) (rs := [.tmp 6]) Tryd.call90 Tryd.func90 rfl rfl rfl (by simp only [List.length_cons, List.length_nil]; omega) (fun cx hcx => ats_of ?_); simp only [argSlots, Nat.zero_add, Nat.reduceAdd]
 refine gA ?_
 refine gC fun K hK => ?_
 first | refine fcall_fresh rfl (hL) ?_ | refine YR_intro (acall_fresh rfl (hL)) ?_
 simp only [go_sem, seval]
 refine hK _ ?_; clear hK K
 refine gB ?_
 rw [lI]
 (repeat refine ats_seq ?_); refine ats_loop (fun c : Nat => ⟨[(0, .l2 S), (1, .l1 D), (2, .int s), (7, .l1 L), (14, .l1 L), (15, .int (lbl t.length s).length), (16, .int c)], []⟩) (fun c => c ≤ (lbl t.length s).length ∧ ∀ b, b < c → s.testBit (dN t ((lbl t.length s).getD b 0)) = true ∧ ∀ d, d < (lbl t.length s).length → Sub (suS t ((lbl t.length s).getD b 0) ((lbl t.length s).getD d 0)) s) (fun c => (lbl t.length s).length - c) 0 ⟨Nat.zero_le _, fun a h => absurd h (Nat.not_lt_zero a)⟩ (by refine And.intro ?_ rfl; simp only [leS, Nat.reduceEqDiff, ↓reduceIte, true_and, and_true]; rfl) (fun c hc => ?_); obtain ⟨hc, Hc⟩ := hc
 refine gA ?_
 refine gI (fun hla => ?_) fun hla => ?_
 ·obtain ⟨x, hx, xb, x1, x2⟩ := gl c (by omega)
  have dx := dg x hx
  have ddx := h.dlt hx
  have srx := sr x hx
  have eb : andI (shrI s (dN t x : Nat)) 1 = if s.testBit (dN t x) then 1 else 0 := bit_get (by omega) (by omega)
  refine ats_skip ?_
  (repeat refine ats_seq ?_); refine ats_block ?_
  refine gC fun K hK => ?_
  rw [x1]
  (repeat refine aI (hb := ?_))
  refine hK _ ?_; clear hK K
  refine gC fun K hK => ?_
  try simp only [Int.toNat_natCast]
  rw [dx, eb]
  (repeat refine aI (hb := ?_))
  refine hK _ ?_; clear hK K
  cases hbit : s.testBit (dN t x) with
  | false =>
   rw [if_neg Bool.false_ne_true]
   (repeat refine ats_seq ?_); refine ats_yes rfl trivial ?_
   refine gA ?_
   refine ats_ret (finB rfl ?_)
   rw [← eq, bd_false]
   intro hC
   have := hC.dual x hx xb
   rw [hbit] at this
   cases this
  | true =>
   rw [if_pos rfl]
   (repeat refine ats_seq ?_); refine ats_no rfl trivial ?_
   refine ats_skip ?_
   refine gA ?_
   rw [lI]
   (repeat refine ats_seq ?_); refine ats_loop (fun d : Nat => ⟨[(0, .l2 S), (1, .l1 D), (2, .int s), (7, .l1 L), (9, .int x), (14, .l1 L), (15, .int (lbl t.length s).length), (16, .int c), (28, .l1 L), (29, .int (lbl t.length s).length), (30, .int d)], []⟩) (fun d => d ≤ (lbl t.length s).length ∧ ∀ b, b < d → Sub (suS t x ((lbl t.length s).getD b 0)) s) (fun d => (lbl t.length s).length - d) 0 ⟨Nat.zero_le _, fun a h => absurd h (Nat.not_lt_zero a)⟩ (by refine And.intro ?_ rfl; simp only [leS, Nat.reduceEqDiff, ↓reduceIte, true_and, and_true]; rfl) (fun d hd => ?_); obtain ⟨hd, Hd⟩ := hd
   refine gA ?_
   refine gI (fun hld => ?_) fun hld => ?_
   ·obtain ⟨y, hy, yb, y1, y2⟩ := gl d (by omega)
    have sxy := sg x hx y hy
    have sb := full_in h16 (suS_lt (t := t) (i := x) (j := y))
    have ez := anI_zero (a := suS t x y) (b := s) (by omega) (by omega)
    generalize hv : anI (suS t x y : Nat) s = v at ez
    refine ats_skip ?_
    (repeat refine ats_seq ?_); refine ats_block ?_
    refine gC fun K hK => ?_
    rw [y1]
    (repeat refine aI (hb := ?_))
    refine hK _ ?_; clear hK K
    refine gC fun K hK => ?_
    try simp only [Int.toNat_natCast]
    rw [sxy, hv]
    (repeat refine aI (hb := ?_))
    refine hK _ ?_; clear hK K
    refine gI (fun hz => ?_) fun hz => ?_
    ·refine gA ?_
     refine ats_ret (finB rfl ?_)
     rw [← eq, bd_false]
     intro hC
     refine hz (ez.2 fun k hk => ?_)
     have := suS_bit.1 hk
     exact hC.mul x hx y hy k this.1 xb yb this.2
    ·refine ats_skip ?_
     refine gB ?_
     refine ⟨d + 1, ⟨by omega, fun a ha => by rcases Nat.lt_succ_iff_lt_or_eq.1 ha with h | rfl; exact Hd a h; exact (by rw [y2]; exact ez.1 (by omega))⟩, by omega, .inl ⟨?_, rfl⟩⟩; simp only [leS, Nat.reduceEqDiff, ↓reduceIte, true_and, and_true]; omega
   ·obtain rfl : d = (lbl t.length s).length := by omega
    refine ats_exit (lq_x ?_)
    refine gB ?_
    refine ⟨c + 1, ⟨by omega, fun a ha => by rcases Nat.lt_succ_iff_lt_or_eq.1 ha with h | rfl; exact Hc a h; exact ⟨by rw [x2]; exact hbit, fun d hd => by rw [x2]; exact Hd d hd⟩⟩, by omega, .inl ⟨?_, rfl⟩⟩; simp only [leS, Nat.reduceEqDiff, ↓reduceIte, true_and, and_true]; omega
 ·obtain rfl : c = (lbl t.length s).length := by omega
  have hC : ClosP t s := clos_of hs h0 (fun c hc' => (Hc c hc').1) fun c hc' d hd => (Hc c hc').2 d hd
  refine ats_exit (lq_x ?_)
  refine gA ?_
  refine ats_ret (finB rfl ?_)
  rw [← eq, bd_true hC]
theorem subrings_ok (t : Cu) (h : RingP t) : FreshCall Tryd.prog 63 [.agg [.l3 t]] (.l1 (allS t (2 ^ (t.length - 1)))) := by
 have hc := h.cube
 have h16 := hc.2.1
 have hp := h.pos
 have hS := supports_ok t hc
 have hD := duals_ok t hc
 have h2 := p16 h16
 have e2 : 2 ^ t.length = 2 * 2 ^ (t.length - 1) := by
  rw [show t.length = (t.length - 1) + 1 by omega, Nat.pow_succ, Nat.mul_comm]
  rfl
 refine FreshCall.intro (n := 26) (rs := [.tmp 2]) Tryd.call63 Tryd.func63 rfl rfl rfl (by simp only [List.length_cons, List.length_nil]; omega) (fun cx hcx => ats_of ?_); simp only [argSlots, Nat.zero_add, Nat.reduceAdd]
 refine gA ?_
 (repeat refine ats_seq ?_)
 refine ats_plan [] (.one 0 (.one 1 (.one 2 (.one 3 (.one 5 (.one 6 (.alt 4 (.one 7 .fin) .stop))))))) ⟨[(1, .bptr 0 0), (3, .l2 (supL t)), (4, .l1 (ds t)), (5, .ref 1 [])], [(0, .bx [.l3 t]), (1, .t1 [])]⟩ (fix0 hcx) mixed (by kernel_rfl) (fun K hK => ?_) ?_
 ·simp only [go_sem, seval, Option.getD_some, and_true, true_and, and_self, List.contains_cons, List.contains_nil, Bool.or_false, Bool.or_true]
  repeat' (first | exact hK _ (by refine And.intro ?_ rfl; simp only [leS, Nat.reduceEqDiff, ↓reduceIte, true_and, and_true])  | with_reducible refine And.intro ?_ ?_ | omega | ((first | refine fcall_fresh rfl (hS) ?_ | refine YR_intro (acall_fresh rfl (hS)) ?_); simp only [go_sem, seval, Option.getD_some, and_true, true_and, and_self, List.contains_cons, List.contains_nil, Bool.or_false, Bool.or_true]) | ((first | refine fcall_fresh rfl (hD) ?_ | refine YR_intro (acall_fresh rfl (hD)) ?_); simp only [go_sem, seval, Option.getD_some, and_true, true_and, and_self, List.contains_cons, List.contains_nil, Bool.or_false, Bool.or_true]))
 refine gA ?_
 (repeat refine ats_seq ?_); refine ats_loop (fun i : Nat => ⟨[(1, .bptr 0 0), (3, .l2 (supL t)), (4, .l1 (ds t)), (5, .ref 1 []), (6, .int ((2 * i + 1 : Nat) : Int))], [(0, .bx [.l3 t]), (1, .t1 (allS t i))]⟩) (fun i => i ≤ 2 ^ (t.length - 1)) (fun i => 2 ^ (t.length - 1) - i) 0 (Nat.zero_le _) (by refine And.intro ?_ rfl; simp only [leS, Nat.reduceEqDiff, ↓reduceIte, true_and, and_true]; repeat' (first | rfl | with_reducible refine And.intro ?_ ?_ | omega)) (fun i hi => ?_)
 have hl := allS_len (t := t) (m := i)
 have hI := isSet_ok t h16 ((2 * i + 1 : Nat) : Int)
 refine gC fun K hK => ?_
 first | refine fcall_data (hI) rfl ?_ | refine YR_intro (acall_data (hI) rfl) ?_
 simp only [go_sem, seval]
 refine hK _ ?_; clear hK K
 refine gI (fun hli => ?_) fun hli => ?_
 ·try simp only [Bool.and_eq_true, decide_eq_true_eq] at hli
  have hb0 : (2 * i + 1).testBit 0 = true := by simp
  have hC := isClosed_ok t h (2 * i + 1) (by omega) hb0
  refine ats_skip ?_
  (repeat refine ats_seq ?_); refine ats_block ?_
  refine gC fun K hK => ?_
  first | refine fcall_data (hC) rfl ?_ | refine YR_intro (acall_data (hC) rfl) ?_
  simp only [go_sem, seval]
  refine hK _ ?_; clear hK K
  refine gI (fun hx => ?_) fun hx => ?_
  ·refine gB ?_
   refine gB ?_
   refine ⟨i + 1, by omega, by omega, .inr ⟨[2], by simp only [killL, List.map_cons, List.map_nil, killA, killAs, qOf, rmT, killH, killT, List.filter_cons, List.filter_nil, List.contains_cons, List.contains_nil, SlotsLe, St.get, slotGet, Nat.reduceEqDiff, Nat.reduceBEq, Bool.or_false, Bool.or_true, Bool.false_and, Bool.not_true, Bool.not_false, Bool.false_eq_true, ↓reduceIte, if_true, if_false, AV.int.injEq, AV.bool.injEq, AV.l1.injEq, AV.l2.injEq, AV.l3.injEq, true_and, and_true]; omega, by simp only [killL, List.map_cons, List.map_nil, killA, killAs, qOf, rmT, killH, killT, List.filter_cons, List.filter_nil, List.contains_cons, List.contains_nil, SlotsLe, St.get, slotGet, Nat.reduceEqDiff, Nat.reduceBEq, Bool.or_false, Bool.or_true, Bool.false_and, Bool.not_true, Bool.not_false, Bool.false_eq_true, ↓reduceIte, if_true, if_false, AV.int.injEq, AV.bool.injEq, AV.l1.injEq, AV.l2.injEq, AV.l3.injEq, true_and, and_true]; (conv => rhs; unfold allS); rw [if_pos (bd_true hx)]⟩⟩
  ·refine ats_skip ?_
   refine gB ?_
   refine ⟨i + 1,  by omega, by omega, .inl ⟨by simp only [leS, Nat.reduceEqDiff, ↓reduceIte, true_and, and_true]; omega,  by (conv => rhs; unfold allS); rw [bd_false hx, if_neg (by decide), List.append_nil]⟩⟩
 ·try simp only [Bool.and_eq_false_iff, decide_eq_false_iff_not] at hli
  obtain rfl : i = 2 ^ (t.length - 1) := by omega
  refine ats_exit (lq_x ?_)
  refine gA ?_
  exact ats_ret (ownV (is := [1]) rfl ⟨rfl, trivial⟩ rfl (by simp))
theorem implSl_ok (t : Cu) : FreshCall Tryd.prog 33 [.agg [.l3 t]] (.tup [optA (slR t).1, .int (slR t).2]) := by
 have h0 := IsRing_ok t
 cases hr : isRing t with
 | false =>
  rw [hr] at h0
  have e : slR t = (none, 1) := by unfold slR; rw [hr]; rfl
  rw [e]
  refine FreshCall.intro (n := 9) (rs := [.tmp 2, .tmp 3]) Tryd.call33 Tryd.func33 rfl rfl rfl (by simp only [List.length_cons, List.length_nil]; omega) (fun cx hcx => ats_of ?_); simp only [argSlots, Nat.zero_add, Nat.reduceAdd]
  refine gA ?_
  refine gC fun K hK => ?_
  first | refine fcall_data (h0) rfl ?_ | refine YR_intro (acall_data (h0) rfl) ?_
  simp only [go_sem, seval]
  refine hK _ ?_; clear hK K
  (repeat refine ats_seq ?_); refine ats_yes rfl trivial ?_
  refine gA ?_
  exact ats_ret (own2 (is := []) trivial trivial rfl (by simp))
 | true =>
  rw [hr] at h0
  have hS := subrings_ok t (isRing_P hr)
  have e : slR t = (some (allS t (2 ^ (t.length - 1))), 0) := by unfold slR; rw [hr]; rfl
  rw [e]
  refine FreshCall.intro (n := 9) (rs := [.tmp 2, .tmp 3]) Tryd.call33 Tryd.func33 rfl rfl rfl (by simp only [List.length_cons, List.length_nil]; omega) (fun cx hcx => ats_of ?_); simp only [argSlots, Nat.zero_add, Nat.reduceAdd]
  refine gA ?_
  refine gC fun K hK => ?_
  first | refine fcall_data (h0) rfl ?_ | refine YR_intro (acall_data (h0) rfl) ?_
  simp only [go_sem, seval]
  refine hK _ ?_; clear hK K
  (repeat refine ats_seq ?_); refine ats_no rfl trivial ?_
  refine ats_skip ?_
  refine gC fun K hK => ?_
  refine fcall_own rfl (hS) rfl ?_; simp only [go_sem, seval]
  refine hK _ ?_; clear hK K
  exact ats_ret (own2 (is := [1]) trivial trivial rfl (by simp))
theorem implSi_ok (t : Cu) : PureCall Tryd.prog 35 [.agg [.l3 t]] (.tup [.bool (siR t).1, .int (siR t).2]) := by
 have h0 := IsRing_ok t
 cases hr : isRing t with
 | false =>
  rw [hr] at h0
  have e : siR t = (false, 1) := by unfold siR; rw [hr]; rfl
  rw [e]
  refine PureCall.intro (n := 11) (rs := [.tmp 2, .tmp 3]) Tryd.call35 Tryd.func35 rfl rfl rfl (by simp only [List.length_cons, List.length_nil]; omega) (fun cx hcx => ats_of ?_); simp only [argSlots, Nat.zero_add, Nat.reduceAdd]
  refine gA ?_
  refine gC fun K hK => ?_
  first | refine fcall_data (h0) rfl ?_ | refine YR_intro (acall_data (h0) rfl) ?_
  simp only [go_sem, seval]
  refine hK _ ?_; clear hK K
  (repeat refine ats_seq ?_); refine ats_yes rfl trivial ?_
  refine gA ?_
  exact ats_ret (fin2 trivial trivial rfl)
 | true =>
  rw [hr] at h0
  have hS := subrings_ok t (isRing_P hr)
  have e : siR t = (decide (((allS t (2 ^ (t.length - 1))).length : Int) = 2), 0) := by
   unfold siR
   rw [hr, if_pos rfl]
   congr 1
   exact decide_eq_decide.2 ⟨fun h => by omega, fun h => by omega⟩
  rw [e]
  refine PureCall.intro (n := 11) (rs := [.tmp 2, .tmp 3]) Tryd.call35 Tryd.func35 rfl rfl rfl (by simp only [List.length_cons, List.length_nil]; omega) (fun cx hcx => ats_of ?_); simp only [argSlots, Nat.zero_add, Nat.reduceAdd]
  refine gA ?_
  refine gC fun K hK => ?_
  first | refine fcall_data (h0) rfl ?_ | refine YR_intro (acall_data (h0) rfl) ?_
  simp only [go_sem, seval]
  refine hK _ ?_; clear hK K
  (repeat refine ats_seq ?_); refine ats_no rfl trivial ?_
  refine ats_skip ?_
  refine gC fun K hK => ?_
  first | refine fcall_fresh rfl (hS) ?_ | refine YR_intro (acall_fresh rfl (hS)) ?_
  simp only [go_sem, seval]
  refine hK _ ?_; clear hK K
  exact ats_ret (fin2 trivial trivial rfl)
theorem implAd_ok (t : Cu) : PureCall Tryd.prog 14 [.agg [.l3 t]] (.tup [.int (adR t).1, .int (adR t).2]) := by
 have h0 := IsRing_ok t
 cases hr : isRing t with
 | false =>
  rw [hr] at h0
  have e : adR t = (0, 1) := by unfold adR; rw [hr]; rfl
  rw [e]
  refine PureCall.intro (n := 9) (rs := [.tmp 2, .tmp 3]) Tryd.call14 Tryd.func14 rfl rfl rfl (by simp only [List.length_cons, List.length_nil]; omega) (fun cx hcx => ats_of ?_); simp only [argSlots, Nat.zero_add, Nat.reduceAdd]
  refine gA ?_
  refine gC fun K hK => ?_
  first | refine fcall_data (h0) rfl ?_ | refine YR_intro (acall_data (h0) rfl) ?_
  simp only [go_sem, seval]
  refine hK _ ?_; clear hK K
  (repeat refine ats_seq ?_); refine ats_yes rfl trivial ?_
  refine gA ?_
  exact ats_ret (fin2 trivial trivial rfl)
 | true =>
  rw [hr] at h0
  have hS := implAdj_ok t (isRing_P hr)
  have e : adR t = (((adj t : Nat) : Int), 0) := by unfold adR; rw [hr]; rfl
  rw [e]
  refine PureCall.intro (n := 9) (rs := [.tmp 2, .tmp 3]) Tryd.call14 Tryd.func14 rfl rfl rfl (by simp only [List.length_cons, List.length_nil]; omega) (fun cx hcx => ats_of ?_); simp only [argSlots, Nat.zero_add, Nat.reduceAdd]
  refine gA ?_
  refine gC fun K hK => ?_
  first | refine fcall_data (h0) rfl ?_ | refine YR_intro (acall_data (h0) rfl) ?_
  simp only [go_sem, seval]
  refine hK _ ?_; clear hK K
  (repeat refine ats_seq ?_); refine ats_no rfl trivial ?_
  refine ats_skip ?_
  refine gC fun K hK => ?_
  first | refine fcall_data (hS) rfl ?_ | refine YR_intro (acall_data (hS) rfl) ?_
  simp only [go_sem, seval]
  refine hK _ ?_; clear hK K
  exact ats_ret (fin2 trivial trivial rfl)
theorem isInv_ok (t : Cu) (h : RingP t) (i : Nat) (hi : i < t.length) : PureCall Tryd.prog 91 [.agg [.l3 t], .int i] (.bool ((unS t).testBit i)) := by
 have hc := h.cube
 have hO := onlyOf_ok t hc i hi
 rw [← h.dI hi] at hO
 have hV := vectorOf_ok t hc.2.1 0 h.pos
 have ml := hc.mat hi
 have ddi := h.dlt hi
 have hE := sliceEqual_ok ((t.getD i []).getD (dN t i) []) (oneV t.length 0)
 have eb : decide ((t.getD i []).getD (dN t i) [] = oneV t.length 0) = (unS t).testBit i := by
  have h1 := inv_row h hi
  have h2 := un_bit (t := t) hi
  cases hb : (unS t).testBit i with
  | true => exact decide_eq_true (h1.2 (h2.1 hb))
  | false => exact decide_eq_false fun e => by rw [h2.2 (h1.1 e)] at hb; cases hb
 rw [eb] at hE
 refine PureCall.intro (n := 18) (rs := [.tmp 4]) Tryd.call91 Tryd.func91 rfl rfl rfl (by simp only [List.length_cons, List.length_nil]; omega) (fun cx hcx => ats_of ?_); simp only [argSlots, Nat.zero_add, Nat.reduceAdd]
 refine gA ?_
 (repeat refine ats_seq ?_); refine ats_pick (fix0 hcx) mixed (by kernel_rfl) fun K hK => ?_; simp only [go_sem, seval]
 (repeat refine aI (hb := ?_))
 first | refine fcall_data (hO) rfl ?_ | refine YR_intro (acall_data (hO) rfl) ?_
 simp only [go_sem, seval]
 (repeat refine aI (hb := ?_))
 first | refine fcall_fresh rfl (hV) ?_ | refine YR_intro (acall_fresh rfl (hV)) ?_
 simp only [go_sem, seval]
 (repeat refine aI (hb := ?_))
 first | refine fcall_data (hE) rfl ?_ | refine YR_intro (acall_data (hE) rfl) ?_
 simp only [go_sem, seval]
 (repeat refine aI (hb := ?_))
 refine hK _ ?_; clear hK K
 refine ats_ret (finB rfl ?_)
 rfl
theorem implIl_ok (t : Cu) : FreshCall Tryd.prog 64 [.agg [.l3 t]] (.tup [optA (ilR t).1, .int (ilR t).2]) := by
 have h0 := IsRing_ok t
 cases hr : isRing t with
 | false =>
  rw [hr] at h0
  have e : ilR t = (none, 1) := by unfold ilR; rw [hr]; rfl
  rw [e]
  refine FreshCall.intro (n := 25) (rs := [.tmp 2, .tmp 3]) Tryd.call64 Tryd.func64 rfl rfl rfl (by simp only [List.length_cons, List.length_nil]; omega) (fun cx hcx => ats_of ?_); simp only [argSlots, Nat.zero_add, Nat.reduceAdd]
  refine gA ?_
  refine gC fun K hK => ?_
  first | refine fcall_data (h0) rfl ?_ | refine YR_intro (acall_data (h0) rfl) ?_
  simp only [go_sem, seval]
  refine hK _ ?_; clear hK K
  (repeat refine ats_seq ?_); refine ats_yes rfl trivial ?_
  refine gA ?_
  exact ats_ret (own2 (is := []) trivial trivial rfl (by simp))
 | true =>
  rw [hr] at h0
  have h := isRing_P hr
  have h16 := h.cube.2.1
  have e : ilR t = (some (lbI t.length (unS t)), 0) := by unfold ilR; rw [hr]; rfl
  rw [e]
  refine FreshCall.intro (n := 25) (rs := [.tmp 2, .tmp 3]) Tryd.call64 Tryd.func64 rfl rfl rfl (by simp only [List.length_cons, List.length_nil]; omega) (fun cx hcx => ats_of ?_); simp only [argSlots, Nat.zero_add, Nat.reduceAdd]
  refine gA ?_
  refine gC fun K hK => ?_
  first | refine fcall_data (h0) rfl ?_ | refine YR_intro (acall_data (h0) rfl) ?_
  simp only [go_sem, seval]
  refine hK _ ?_; clear hK K
  (repeat refine ats_seq ?_); refine ats_no rfl trivial ?_
  refine ats_skip ?_
  refine gB ?_
  refine gB ?_
  (repeat refine ats_seq ?_); refine ats_loop (fun i : Nat => ⟨[(1, .bptr 0 0), (4, .ref 1 []), (12, .int t.length), (13, .int i)], [(0, .bx [.l3 t]), (1, .t1 (lbI i (unS t)))]⟩) (fun i => i ≤ t.length) (fun i => t.length - i) 0 (Nat.zero_le _) (by refine And.intro ?_ rfl; simp only [leS, Nat.reduceEqDiff, ↓reduceIte, true_and, and_true]; repeat' (first | rfl | with_reducible refine And.intro ?_ ?_ | omega)) (fun i hi => ?_)
  have hl : (lbI i (unS t)).length ≤ i := by rw [lbI_len]; exact lbl_len
  refine gA ?_
  refine gI (fun hli => ?_) fun hli => ?_
  ·have hb := isInv_ok t h i (by omega)
   refine ats_skip ?_
   (repeat refine ats_seq ?_); refine ats_block ?_
   refine gA ?_
   cases hx : (unS t).testBit i with
   | true =>
    rw [hx] at hb
    refine gC fun K hK => ?_
    first | refine fcall_data (hb) rfl ?_ | refine YR_intro (acall_data (hb) rfl) ?_
    simp only [go_sem, seval]
    refine hK _ ?_; clear hK K
    (repeat refine ats_seq ?_); refine ats_yes rfl trivial ?_
    refine gB ?_
    refine gB ?_
    refine ⟨i + 1, by omega, by omega, .inr ⟨[2], by simp only [killL, List.map_cons, List.map_nil, killA, killAs, qOf, rmT, killH, killT, List.filter_cons, List.filter_nil, List.contains_cons, List.contains_nil, SlotsLe, St.get, slotGet, Nat.reduceEqDiff, Nat.reduceBEq, Bool.or_false, Bool.or_true, Bool.false_and, Bool.not_true, Bool.not_false, Bool.false_eq_true, ↓reduceIte, if_true, if_false, AV.int.injEq, AV.bool.injEq, AV.l1.injEq, AV.l2.injEq, AV.l3.injEq, true_and, and_true]; omega, by simp only [killL, List.map_cons, List.map_nil, killA, killAs, qOf, rmT, killH, killT, List.filter_cons, List.filter_nil, List.contains_cons, List.contains_nil, SlotsLe, St.get, slotGet, Nat.reduceEqDiff, Nat.reduceBEq, Bool.or_false, Bool.or_true, Bool.false_and, Bool.not_true, Bool.not_false, Bool.false_eq_true, ↓reduceIte, if_true, if_false, AV.int.injEq, AV.bool.injEq, AV.l1.injEq, AV.l2.injEq, AV.l3.injEq, true_and, and_true]; rw [← lbI_yes hx]⟩⟩
   | false =>
    rw [hx] at hb
    refine gC fun K hK => ?_
    first | refine fcall_data (hb) rfl ?_ | refine YR_intro (acall_data (hb) rfl) ?_
    simp only [go_sem, seval]
    refine hK _ ?_; clear hK K
    (repeat refine ats_seq ?_); refine ats_no rfl trivial ?_
    refine ats_skip ?_
    refine gB ?_
    refine ⟨i + 1,  by omega, by omega, .inl ⟨by simp only [leS, Nat.reduceEqDiff, ↓reduceIte, true_and, and_true]; omega,  by rw [← lbI_no hx]⟩⟩
  ·obtain rfl : i = t.length := by omega
   refine ats_exit (lq_x ?_)
   refine gA ?_
   exact ats_ret (own2 (is := [1]) trivial trivial rfl (by simp))
theorem implIu_ok (t : Cu) : PureCall Tryd.prog 34 [.agg [.l3 t]] (.tup [.int (iuR t).1, .int (iuR t).2]) := by
 have h0 := implIl_ok t
 cases hr : isRing t with
 | false =>
  have e0 : ilR t = (none, 1) := by unfold ilR; rw [hr]; rfl
  have e : iuR t = (0, 1) := by unfold iuR; rw [hr]; rfl
  rw [e]
  rw [e0] at h0
  change FreshCall _ _ _ (.tup [.nil, .int 1]) at h0
  refine PureCall.intro (n := 27) (rs := [.tmp 2, .tmp 3]) Tryd.call34 Tryd.func34 rfl rfl rfl (by simp only [List.length_cons, List.length_nil]; omega) (fun cx hcx => ats_of ?_); simp only [argSlots, Nat.zero_add, Nat.reduceAdd]
  refine gA ?_
  refine gC fun K hK => ?_
  first | refine fcall_fresh rfl (h0) ?_ | refine YR_intro (acall_fresh rfl (h0)) ?_
  simp only [go_sem, seval]
  refine hK _ ?_; clear hK K
  refine gA ?_
  refine gA ?_
  (repeat refine ats_seq ?_); refine ats_loop (fun i : Nat => ⟨[(5, .int 1), (6, .int 0), (14, .nil), (15, .int 0), (16, .int 0)], [(0, .bx [.l3 t])]⟩) (fun i => True) (fun i => i) 0 trivial (by
   refine And.intro ?_ rfl; simp only [leS, Nat.reduceEqDiff, ↓reduceIte, true_and, and_true]
   done) (fun i hi => ?_)
  refine gA ?_
  (repeat refine ats_seq ?_); refine ats_no rfl trivial ?_
  refine ats_exit (lq_x ?_)
  refine gA ?_
  exact ats_ret (fin2 trivial trivial rfl)
 | true =>
  have h := isRing_P hr
  have h16 := h.cube.2.1
  have e0 : ilR t = (some (lbI t.length (unS t)), 0) := by unfold ilR; rw [hr]; rfl
  have e : iuR t = (((unS t : Nat) : Int), 0) := by unfold iuR; rw [hr]; rfl
  rw [e]
  rw [e0] at h0
  change FreshCall _ _ _ (.tup [.l1 (lbI t.length (unS t)), .int 0]) at h0
  have fe := frU_end (unS_lt (t := t))
  generalize unS t = u at *
  have lI : (lbI t.length u).length = (lbl t.length u).length := lbI_len
  have gl : ∀ a, a < (lbl t.length u).length → ∃ x : Nat, x < t.length ∧ (lbI t.length u).getD a 0 = x ∧ (lbl t.length u).getD a 0 = x := fun a ha => ⟨_, (lbl_get ha).1, lbI_get ha, rfl⟩
  have l1 := lbl_len (n := t.length) (s := u)
  generalize lbI t.length u = L at *
  refine PureCall.intro (n := 27) (rs := [.tmp 2, .tmp 3]) Tryd.call34 Tryd.func34 rfl rfl rfl (by simp only [List.length_cons, List.length_nil]; omega) (fun cx hcx => ats_of ?_); simp only [argSlots, Nat.zero_add, Nat.reduceAdd]
  refine gA ?_
  refine gC fun K hK => ?_
  first | refine fcall_fresh rfl (h0) ?_ | refine YR_intro (acall_fresh rfl (h0)) ?_
  simp only [go_sem, seval]
  refine hK _ ?_; clear hK K
  refine gA ?_
  refine gA ?_
  rw [lI]
  (repeat refine ats_seq ?_); refine ats_loop (fun p : Nat × Nat => ⟨[(5, .int 0), (6, .int p.2), (14, .l1 L), (15, .int (lbl t.length u).length), (16, .int p.1)], [(0, .bx [.l3 t])]⟩) (fun p => p.1 ≤ (lbl t.length u).length ∧ p.2 = setN t.length (fun k => ∃ a, a < p.1 ∧ a < (lbl t.length u).length ∧ (lbl t.length u).getD a 0 = k)) (fun p => (lbl t.length u).length - p.1) (0, 0) ⟨Nat.zero_le _, bits_ext fun k => by dsimp only; rw [setN_bit]; simp⟩ (by
   refine And.intro ?_ rfl; simp only [leS, Nat.reduceEqDiff, ↓reduceIte, true_and, and_true]
   exact ⟨rfl, rfl⟩) (fun p hp => ?_)
  obtain ⟨a, o⟩ := p
  obtain ⟨ha, ho⟩ := hp
  dsimp only at ha ho ⊢
  have hlo : o < 2 ^ t.length := by rw [ho]; exact setN_lt
  refine gA ?_
  refine gI (fun hla => ?_) fun hla => ?_
  ·obtain ⟨x, hx, x1, x2⟩ := gl a (by omega)
   have esh := shlI_one (show x ≤ 62 by omega)
   have eo := orS (full_in h16 hlo) (full_in h16 (pow_lt hx))
   have st := frU_step (n := t.length) (s := u) (show a < (lbl t.length u).length by omega)
   rw [← ho, x2] at st
   refine ats_skip ?_
   (repeat refine ats_seq ?_); refine ats_block ?_
   refine gB ?_
   refine gC fun K hK => ?_
   rw [x1, esh, eo]
   (repeat refine aI (hb := ?_))
   refine hK _ ?_; clear hK K
   refine gB ?_
   refine ⟨(a + 1, o ||| 2 ^ x),  ⟨by dsimp only; omega, st⟩, by omega, .inl ⟨by simp only [leS, Nat.reduceEqDiff, ↓reduceIte, true_and, and_true]; omega,  rfl⟩⟩
  ·obtain rfl : a = (lbl t.length u).length := by omega
   rw [fe] at ho
   subst ho
   refine ats_exit (lq_x ?_)
   refine gA ?_
   exact ats_ret (fin2 trivial trivial rfl)
end Go.Proofs.YtfnokakbdehlgaaDoor
namespace Go.Proofs.YtfnokakbdehlgaaDoor
open Go Go.Aw Go.Pl
theorem ones_ok (n s : Nat) (h10 : n ≤ 10) (hs : s < 2 ^ n) : PureCall Tryd.prog 89 [.ik .u64 s] (.int (lbl n s).length) := by
 have hb : s < 1024 := Nat.lt_of_lt_of_le hs (Nat.pow_le_pow_right (by decide) h10)
 have ef := pcF_lbl hb
 rw [lbl_more hs (show n ≤ 16 by omega)] at ef
 rw [← ef]
 unfold pcF
 have hA := pA_le (x := s)
 have eA := stA (x := s) (by omega)
 generalize pcA s = a at *
 have hB := pB_le (x := a)
 have eB := stB (x := a) (by omega)
 generalize pcB a = b at *
 have hC := pC_le (x := b)
 have eC := stC (x := b) (by omega)
 generalize pcC b = c at *
 have eD := stD (x := c) (by omega)
 have eE := stE (x := c + c / 256) (by omega)
 have eF := stF (x := c + c / 256 + (c + c / 256) / 65536) (by omega)
 have eG := andS (a := c + c / 256 + (c + c / 256) / 65536 + (c + c / 256 + (c + c / 256) / 65536) / 4294967296) (b := 127) (by omega) (by decide)
 refine PureCall.intro (n := 35) (rs := [.tmp 2]) Tryd.call89 Tryd.func89 rfl rfl rfl (by simp only [List.length_cons, List.length_nil]; omega) (fun cx hcx => ats_of ?_); simp only [argSlots, Nat.zero_add, Nat.reduceAdd]
 refine gA ?_
 refine gC fun K hK => ?_
 rw [eA]
 refine hK _ ?_; clear hK K
 refine gC fun K hK => ?_
 rw [eB]
 refine hK _ ?_; clear hK K
 refine gC fun K hK => ?_
 rw [eC]
 refine hK _ ?_; clear hK K
 refine gC fun K hK => ?_
 rw [eD]
 refine hK _ ?_; clear hK K
 refine gC fun K hK => ?_
 rw [eE]
 refine hK _ ?_; clear hK K
 refine gC fun K hK => ?_
 rw [eF]
 refine hK _ ?_; clear hK K
 refine gB ?_
 refine ats_ret (finI rfl ?_)
 exact eG
end Go.Proofs.YtfnokakbdehlgaaDoor
