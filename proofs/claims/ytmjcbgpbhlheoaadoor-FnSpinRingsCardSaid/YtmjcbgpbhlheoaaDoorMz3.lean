import Derived.Test.YtmjcbgpbhlheoaaDoorMz2
import Derived.Test.YtmjcbgpbhlheoaaDoorQd2
import Derived.Test.YtmjcbgpbhlheoaaDoorWx4
import Derived.Test.YtmjcbgpbhlheoaaDoorWz1
import Derived.Test.YtmjcbgpbhlheoaaDoorJz4
import Derived.Test.YtmjcbgpbhlheoaaDoorDz1
import Derived.Test.YtmjcbgpbhlheoaaDoorHd
import Derived.Test.YtmjcbgpbhlheoaaDoorWx1
set_option linter.unusedSimpArgs false
set_option linter.unusedVariables false
namespace Go.Proofs.YtmjcbgpbhlheoaaDoor
open Go Go.Aw Go.Pl
set_option maxRecDepth 100000 in
theorem closed_ok (t : Cu) (h : RingP t) (s : Nat) (hs : s < 2 ^ t.length) : PureCall Tryd.prog 28 [.agg [.l3 t], .int s] (.int (clo t s : Nat)) := by
 have hc := h.cube
 have h16 := hc.2.1
 have hb := full_in h16 hs
 have hS := supports_ok t hc
 have hD := duals_ok t hc
 have e1 := or1 hb
 have h1 : s ||| 1 < 2 ^ t.length := or_lt hs (by have := Nat.pow_lt_pow_right (show 1 < 2 by decide) h.pos; simpa using this)
 have hLb := fun u hu => labelsIn_ok t.length h16 u hu
 have ld := ds_length t
 have dg : ∀ i, i < t.length → (ds t).getD i 0 = (dN t i : Nat) := fun i hi => by rw [ds_get hi, h.dI hi]
 have sg := fun i hi j hj => sup_get (t := t) (i := i) (j := j) hi hj
 have sr := fun i hi => sup_row (t := t) (i := i) hi
 have sl := sup_len (t := t)
 rw [← clo_or1]
 generalize ds t = D at *
 generalize supL t = S at *
 refine PureCall.intro (n := 56) (rs := [.tmp 4]) Tryd.call28 Tryd.func28 rfl rfl rfl (by simp only [List.length_cons, List.length_nil]; omega) (fun cx hcx => ats_of ?_); simp only [argSlots, Nat.zero_add, Nat.reduceAdd]
 refine gA ?_
 (repeat refine ats_seq ?_); refine ats_pick (fix0 hcx) mixed (by kernel_rfl) fun K hK => ?_; simp only [go_sem, seval]
 first | refine fcall_fresh rfl (hS) ?_ | refine YR_intro (acall_fresh rfl (hS)) ?_
 simp only [go_sem, seval]
 first | refine fcall_fresh rfl (hD) ?_ | refine YR_intro (acall_fresh rfl (hD)) ?_
 simp only [go_sem, seval]
 refine hK _ ?_; clear hK K
 refine gC fun K hK => ?_
 rw [e1]
 refine hK _ ?_; clear hK K
 have h0 : (s ||| 1).testBit 0 = true := or_bit.2 (.inr (by decide))
 generalize s ||| 1 = s0 at *
 clear e1 hb hs hS hD
 (repeat refine ats_seq ?_); refine ats_loop (fun u : Nat => ⟨[(1, .int u), (5, .l2 S), (6, .l1 D)], [(0, .bx [.l3 t])]⟩) (fun u => u < 2 ^ t.length ∧ u.testBit 0 = true ∧ Sub s0 u ∧ Sub u (clo t s0)) (fun u => 2 ^ t.length - u) s0 ⟨h1, h0, Sub.refl s0, clo_sub h1⟩ (by
  refine And.intro ?_ rfl; simp only [leS, Nat.reduceEqDiff, ↓reduceIte, true_and, and_true]
  done) (fun u hu => ?_)
 obtain ⟨hu, hz, k1, k2⟩ := hu
 have hub := full_in h16 hu
 have hL := hLb u hu
 have lI : (lbI t.length u).length = (lbl t.length u).length := lbI_len
 have gl : ∀ a, a < (lbl t.length u).length → ∃ x : Nat, x < t.length ∧ (lbI t.length u).getD a 0 = x ∧ (lbl t.length u).getD a 0 = x := fun a ha => ⟨_, (lbl_get ha).1, lbI_get ha, rfl⟩
 have l1 := lbl_len (n := t.length) (s := u)
 generalize hLd : lbI t.length u = L at *
 (repeat refine ats_seq ?_); refine ats_block ?_
 refine gA ?_
 refine gC fun K hK => ?_
 first | refine fcall_fresh rfl (hL) ?_ | refine YR_intro (acall_fresh rfl (hL)) ?_
 simp only [go_sem, seval]
 (repeat refine aI (hb := ?_))
 refine hK _ ?_; clear hK K
 rw [lI]
 (repeat refine ats_seq ?_); refine ats_loop (fun p : Nat × Nat => ⟨[(1, .int u), (5, .l2 S), (6, .l1 D), (7, .int p.2), (20, .l1 L), (21, .int (lbl t.length u).length), (22, .int p.1)], [(0, .bx [.l3 t])]⟩) (fun p => p.1 ≤ (lbl t.length u).length ∧ Cl t u p.2 p.1 0) (fun p => (lbl t.length u).length - p.1) (0, u) ⟨Nat.zero_le _, Cl.start hu⟩ (by
  refine And.intro ?_ rfl; simp only [leS, Nat.reduceEqDiff, ↓reduceIte, true_and, and_true]
  rfl) (fun p hp => ?_)
 obtain ⟨a, o⟩ := p
 obtain ⟨ha, hC⟩ := hp
 dsimp only at ha hC ⊢
 refine gA ?_
 refine gI (fun hla => ?_) fun hla => ?_
 ·have ha2 : a < (lbl t.length u).length := by omega
  obtain ⟨x, hx, x1, x2⟩ := gl a ha2
  have dx := dg x hx
  have ddx := h.dlt hx
  have esh := shlI_one (show dN t x ≤ 62 by omega)
  have eo := orS (full_in h16 hC.lt) (full_in h16 (pow_lt ddx))
  have hC := hC.dualP h ha2
  rw [x2] at hC
  have hdd : (o ||| 2 ^ dN t x).testBit (dN t x) = true := or_bit.2 (.inr (pow_bit.2 rfl))
  have srx := sr x hx
  refine ats_skip ?_
  (repeat refine ats_seq ?_); refine ats_block ?_
  refine gC fun K hK => ?_
  rw [x1]
  (repeat refine aI (hb := ?_))
  refine hK _ ?_; clear hK K
  refine gC fun K hK => ?_
  try simp only [Int.toNat_natCast]
  rw [dx, esh, eo]
  (repeat refine aI (hb := ?_))
  refine hK _ ?_; clear hK K
  refine gC fun K hK => ?_
  first | refine fcall_fresh rfl (hL) ?_ | refine YR_intro (acall_fresh rfl (hL)) ?_
  simp only [go_sem, seval]
  (repeat refine aI (hb := ?_))
  refine hK _ ?_; clear hK K
  rw [lI]
  generalize o ||| 2 ^ dN t x = o at hC hdd ⊢
  clear eo
  (repeat refine ats_seq ?_); refine ats_loop (fun p : Nat × Nat => ⟨[(1, .int u), (5, .l2 S), (6, .l1 D), (7, .int p.2), (9, .int x), (20, .l1 L), (21, .int (lbl t.length u).length), (22, .int a), (34, .l1 L), (35, .int (lbl t.length u).length), (36, .int p.1)], [(0, .bx [.l3 t])]⟩) (fun p => p.1 ≤ (lbl t.length u).length ∧ Cl t u p.2 a p.1 ∧ p.2.testBit (dN t x) = true) (fun p => (lbl t.length u).length - p.1) (0, o) ⟨Nat.zero_le _, hC, hdd⟩ (by
   refine And.intro ?_ rfl; simp only [leS, Nat.reduceEqDiff, ↓reduceIte, true_and, and_true]
   rfl) (fun p hp => ?_)
  obtain ⟨b, o⟩ := p
  obtain ⟨hb, hC, hdd⟩ := hp
  dsimp only at hb hC hdd ⊢
  refine gA ?_
  refine gI (fun hlb => ?_) fun hlb => ?_
  ·have hb2 : b < (lbl t.length u).length := by omega
   obtain ⟨y, hy, y1, y2⟩ := gl b hb2
   have sxy := sg x hx y hy
   have eo := orS (full_in h16 hC.lt) (full_in h16 (suS_lt (t := t) (i := x) (j := y)))
   have hC2 := hC.incB ha2 hb2
   rw [x2, y2] at hC2
   refine ats_skip ?_
   (repeat refine ats_seq ?_); refine ats_block ?_
   refine gC fun K hK => ?_
   rw [y1]
   (repeat refine aI (hb := ?_))
   refine hK _ ?_; clear hK K
   refine gC fun K hK => ?_
   try simp only [Int.toNat_natCast]
   rw [sxy, eo]
   (repeat refine aI (hb := ?_))
   refine hK _ ?_; clear hK K
   refine gB ?_
   refine ⟨(b + 1, o ||| suS t x y),  ⟨by dsimp only; omega, hC2, or_bit.2 (.inl hdd)⟩, by omega, .inl ⟨by simp only [leS, Nat.reduceEqDiff, ↓reduceIte, true_and, and_true]; omega,  rfl⟩⟩
  ·have hC3 := hC.incA (by omega) (by rw [x2]; exact hdd)
   refine ats_exit (lq_x ?_)
   refine gB ?_
   refine ⟨(a + 1, o),  ⟨by dsimp only; omega, hC3⟩, by omega, .inl ⟨by simp only [leS, Nat.reduceEqDiff, ↓reduceIte, true_and, and_true]; omega,  rfl⟩⟩
 ·obtain rfl : a = (lbl t.length u).length := by omega
  have e := hC.fin h hu hz
  subst e
  refine ats_exit (lq_x ?_)
  refine gA ?_
  refine gI (fun he => ?_) fun he => ?_
  ·have e2 := clo_of h k1 k2 ((h.spr_clos hu).1 (by omega))
   refine gA ?_
   refine ats_ret (finI rfl ?_)
   rw [← e2]
  ·have hg := spr_grow hu (fun e => he (by rw [e]))
   have hlt := spr_lt (t := t) (s := u)
   refine ats_skip ?_
   refine gA ?_
   refine ⟨spr t u,  ⟨spr_lt, spr_sub hu 0 hz, k1.trans (spr_sub hu), spr_in h.clo_clos k2⟩, by omega, .inl ⟨by simp only [leS, Nat.reduceEqDiff, ↓reduceIte, true_and, and_true]; done,  rfl⟩⟩
end Go.Proofs.YtmjcbgpbhlheoaaDoor
namespace Go.Proofs.YtmjcbgpbhlheoaaDoor
open Go Go.Aw Go.Pl
theorem setCode_ok (t : Cu) (x : Int) : PureCall Tryd.prog 27 [.agg [.l3 t], .int x] (.int (scA t x)) := by
 have h0 := IsRing_ok t
 cases hr : isRing t with
 | false =>
  rw [hr] at h0
  have e : scA t x = 1 := by unfold scA; rw [hr]; rfl
  rw [e]
  refine PureCall.intro (n := 12) (rs := [.tmp 4]) Tryd.call27 Tryd.func27 rfl rfl rfl (by simp only [List.length_cons, List.length_nil]; omega) (fun cx hcx => ats_of ?_); simp only [argSlots, Nat.zero_add, Nat.reduceAdd]
  refine gA ?_
  refine gC fun K hK => ?_
  first | refine fcall_data (h0) rfl ?_ | refine YR_intro (acall_data (h0) rfl) ?_
  simp only [go_sem, seval]
  refine hK _ ?_; clear hK K
  (repeat refine ats_seq ?_); refine ats_yes rfl trivial ?_
  refine gA ?_
  refine ats_ret (finI rfl ?_)
  rfl
 | true =>
  rw [hr] at h0
  have hI := isSet_ok t (isRing_P hr).cube.2.1 x
  have e : scA t x = if 0 ≤ x ∧ x ≤ (2 ^ t.length - 1 : Nat) then 0 else 2 := by unfold scA; rw [hr]; rfl
  rw [e]
  refine PureCall.intro (n := 12) (rs := [.tmp 4]) Tryd.call27 Tryd.func27 rfl rfl rfl (by simp only [List.length_cons, List.length_nil]; omega) (fun cx hcx => ats_of ?_); simp only [argSlots, Nat.zero_add, Nat.reduceAdd]
  refine gA ?_
  refine gC fun K hK => ?_
  first | refine fcall_data (h0) rfl ?_ | refine YR_intro (acall_data (h0) rfl) ?_
  simp only [go_sem, seval]
  refine hK _ ?_; clear hK K
  (repeat refine ats_seq ?_); refine ats_no rfl trivial ?_
  refine ats_skip ?_
  refine gC fun K hK => ?_
  first | refine fcall_data (hI) rfl ?_ | refine YR_intro (acall_data (hI) rfl) ?_
  simp only [go_sem, seval]
  refine hK _ ?_; clear hK K
  refine gI (fun hx => ?_) fun hx => ?_
  ·refine gA ?_
   refine ats_ret (finI rfl ?_)
   rw [if_neg (fun hh => by simp [hh.1, hh.2] at hx)]
  ·refine ats_skip ?_
   refine gA ?_
   refine ats_ret (finI rfl ?_)
   simp only [Bool.not_eq_false', Bool.and_eq_true, decide_eq_true_eq] at hx
   rw [if_pos hx]
end Go.Proofs.YtmjcbgpbhlheoaaDoor
namespace Go.Proofs.YtmjcbgpbhlheoaaDoor
open Go Go.Aw Go.Pl
end Go.Proofs.YtmjcbgpbhlheoaaDoor
namespace Go.Proofs.YtmjcbgpbhlheoaaDoor
open Go Go.Aw Go.Pl
theorem onesG_ok (n s : Nat) (h16 : n ≤ 16) (hs : s < 2 ^ n) (ef : pcF s = (lbl 16 s).length) : PureCall Tryd.prog 50 [.ik .u64 s] (.int (lbl n s).length) := by
 have hb : s < 65536 := Nat.lt_of_lt_of_le hs (Nat.pow_le_pow_right (by decide) h16)
 rw [lbl_more hs (show n ≤ 16 by omega)] at ef
 rw [← ef]
 unfold pcF
 have hA := pA_le (x := s)
 have eA := stA (x := s) (by omega)
 generalize pcA s = a at *
 have hB := pB_le (x := a)
 have eB := stB (x := a) (by omega)
 generalize pcB a = b at *
 have hC := pC_le (x := b)
 have eC := stC (x := b) (by omega)
 generalize pcC b = c at *
 have eD := stD (x := c) (by omega)
 have eE := stE (x := c + c / 256) (by omega)
 have eF := stF (x := c + c / 256 + (c + c / 256) / 65536) (by omega)
 have eG := andI_nat (a := c + c / 256 + (c + c / 256) / 65536 + (c + c / 256 + (c + c / 256) / 65536) / 4294967296) (b := 127) (by omega) (by decide)
 refine PureCall.intro (n := 35) (rs := [.tmp 2]) Tryd.call50 Tryd.func50 rfl rfl rfl (by simp only [List.length_cons, List.length_nil]; omega) (fun cx hcx => ats_of ?_); simp only [argSlots, Nat.zero_add, Nat.reduceAdd]
 refine gA ?_
 refine gC fun K hK => ?_
 rw [eA]
 refine hK _ ?_; clear hK K
 refine gC fun K hK => ?_
 rw [eB]
 refine hK _ ?_; clear hK K
 refine gC fun K hK => ?_
 rw [eC]
 refine hK _ ?_; clear hK K
 refine gC fun K hK => ?_
 rw [eD]
 refine hK _ ?_; clear hK K
 refine gC fun K hK => ?_
 rw [eE]
 refine hK _ ?_; clear hK K
 refine gC fun K hK => ?_
 rw [eF]
 refine hK _ ?_; clear hK K
 refine gB ?_
 refine ats_ret (finI rfl ?_)
 exact eG
end Go.Proofs.YtmjcbgpbhlheoaaDoor
