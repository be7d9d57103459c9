import Derived.Test.YtfnokakbdehlgaaDoorLib7
import Derived.Test.YtfnokakbdehlgaaDoorTy
import Derived.Test.YtfnokakbdehlgaaDoorRows
import Derived.Shelf.Spec.TrailingZeros
import Derived.Test.YtfnokakbdehlgaaDoorQd1
import Derived.Test.YtfnokakbdehlgaaDoorWx2
import Derived.Test.YtfnokakbdehlgaaDoorWx3
import Derived.Test.YtfnokakbdehlgaaDoorWz1
import Derived.Test.YtfnokakbdehlgaaDoorQd2
set_option linter.unusedSimpArgs false
set_option linter.unusedVariables false
namespace Go.Proofs.YtfnokakbdehlgaaDoor
open Go Go.Aw Go.RowKit
theorem tz_zero (w : World) : Calls Tryd.prog 75 #[.int .u64 0] w fun e w' => e = .returned (.int .i64 64) ∧ w' = w := by
 go_enter Tryd.func75, Tryd.ntmps75
 go_wp2
 go_ret
 exact ⟨rfl, rfl⟩
set_option maxHeartbeats 1000000 in
theorem tz_core (x k idx : Nat) (w : World) (hx0 : ((x : Int) == 0) = false)
  (key : bits BinOp.and IntKind.u64 (x : Int) (-(x : Int) % 18446744073709551616) * 285870213051353865 % 18446744073709551616 / 288230376151711744 = (idx : Int))
  (hi : idx < 64) (hk : k < 64) (hcell : w.cell? ⟨0, idx, none⟩ = some (.int .u8 k)) :
  Calls Tryd.prog 75 #[.int .u64 x] w fun e w' => e = .returned (.int .i64 k) ∧ w' = w := by
 go_enter Tryd.func75, Tryd.ntmps75
 go_wp2_with (simp only [key])
 go_ret
 exact ⟨rfl, rfl⟩
theorem tz_tab {w : World} (h : GlobOk w) (i : Nat) (hi : i < 64) : w.cell? ⟨0, i, none⟩ = some (.int .u8 ((Lib.deBruijn64tab.getD i 0 : Nat) : Int)) := by
 refine (h (0, (Lib.deBruijn64tab.map fun n : Nat => Value.int .u8 (n : Int))) (by unfold glC Lib.deBruijn64tab; exact List.mem_singleton.2 rfl)).2 i _ ?_
 rw [List.getElem?_map, List.getElem?_eq_getElem (show i < Lib.deBruijn64tab.length from hi), List.getD_eq_getElem?_getD, List.getElem?_eq_getElem (show i < Lib.deBruijn64tab.length from hi)]
 rfl
theorem tz_ok (x : Nat) (hx : x < 18446744073709551616) : PureCall Tryd.prog 75 [.ik .u64 x] (.int (Lib.ctz 64 x : Nat)) := by
 refine ⟨Tryd.call75, fun vs w S hS hd => ?_⟩
 match vs, hd with
 | [v], hd =>
  obtain rfl : v = .int .u64 x := by have := hd.1; simpa only [Rd, rep] using this
  have key : Calls Tryd.prog 75 #[.int .u64 x] w fun e w' => e = .returned (.int .i64 (Lib.ctz 64 x)) ∧ w' = w := by
   by_cases hx0 : x = 0
   ·subst hx0
    exact tz_zero w
   ·obtain ⟨hlow, hk⟩ := Lib.lowest_bit 64 x hx0 hx
    obtain ⟨hi, htab⟩ := Lib.deBruijn64_at _ hk
    have hcell := tz_tab hS.2 _ hi
    rw [htab] at hcell
    have hky := tz64_key x _ hx hx0 hlow
    simp only [IntKind.wrap_u64] at hky
    exact tz_core x _ _ w (by simp; omega) hky hi hk hcell
  refine key.mono ?_
  rintro e w' ⟨rfl, rfl⟩
  refine ⟨_, rfl, Below.refl _ _, ?_⟩
  simp only [Rd, rep]
  refine ⟨trivial, ?_⟩
  have : Lib.ctz 64 x ≤ 64 := by
   by_cases hx0 : x = 0
   ·subst hx0; decide
   ·have := (Lib.lowest_bit 64 x hx0 hx).2
    omega
  unfold InR
  omega
end Go.Proofs.YtfnokakbdehlgaaDoor
namespace Go.Proofs.YtfnokakbdehlgaaDoor
open Go Go.Aw Go.Pl
theorem l05Bit_ok (s i : Nat) (hs : s < 65536) (hi : i ≤ 62) : PureCall Tryd.prog 78 [.int s, .int i] (.bool (s.testBit i)) := by
 have e : andI (shrI s ((i : Int) % 18446744073709551616)) 1 = if s.testBit i then 1 else 0 := by
  rw [show (i : Int) % 18446744073709551616 = (i : Int) by omega]
  exact bit_get (by omega) (by omega)
 refine PureCall.intro (n := 11) (rs := [.tmp 4]) Tryd.call78 Tryd.func78 rfl rfl rfl (by simp only [List.length_cons, List.length_nil]; omega) (fun cx hcx => ats_of ?_); simp only [argSlots, Nat.zero_add, Nat.reduceAdd]
 refine gA ?_
 refine gB ?_
 refine ats_ret (finB rfl ?_)
 rw [e]
 cases h : s.testBit i <;> rfl
theorem l05All_ok (t : Cu) (h16 : t.length ≤ 16) : PureCall Tryd.prog 83 [.agg [.l3 t]] (.int (2 ^ t.length - 1 : Nat)) := by
 have e := shl1 (i := t.length) (by omega)
 have h2 := p16 h16
 have h3 := Nat.pow_pos (n := t.length) (show 0 < 2 by decide)
 refine PureCall.intro (n := 9) (rs := [.tmp 2]) Tryd.call83 Tryd.func83 rfl rfl rfl (by simp only [List.length_cons, List.length_nil]; omega) (fun cx hcx => ats_of ?_); simp only [argSlots, Nat.zero_add, Nat.reduceAdd]
 refine gA ?_
 refine gC fun K hK => ?_
 rw [e]
 (repeat refine aI (hb := ?_))
 refine hK _ ?_; clear hK K
 refine ats_ret (finI rfl ?_)
 omega
theorem l05Spread_ok (t : Cu) (h : RingP t) (s : Nat) (hs : s < 2 ^ t.length) : PureCall Tryd.prog 87 [.agg [.l3 t], .int s] (.int (spr t s : Nat)) := by
 have hc := h.cube
 have h16 := hc.2.1
 have hb := full_in h16 hs
 have hm := hc.2.2
 have e1 := or1 hb
 refine PureCall.intro (n := 65) (rs := [.tmp 4]) Tryd.call87 Tryd.func87 rfl rfl rfl (by simp only [List.length_cons, List.length_nil]; omega) (fun cx hcx => ats_of ?_); simp only [argSlots, Nat.zero_add, Nat.reduceAdd]
 refine gA ?_
 refine gC fun K hK => ?_
 rw [e1]
 refine hK _ ?_; clear hK K
 refine gA ?_
 refine gA ?_
 (repeat refine ats_seq ?_); refine ats_loop (fun p : Nat × Nat => ⟨[(1, .int s), (2, .bptr 0 0), (5, .int p.2), (6, .int t.length), (7, .int p.1)], [(0, .bx [.l3 t])]⟩) (fun p => p.1 ≤ t.length ∧ Cm t s p.2 p.1 0 0) (fun p => t.length - p.1) (0, s ||| 1) ⟨Nat.zero_le _, Cm.start hs h.pos⟩ (by
  refine And.intro ?_ rfl; simp only [leS, Nat.reduceEqDiff, ↓reduceIte, true_and, and_true]
  rfl) (fun p hp => ?_)
 obtain ⟨i, o⟩ := p
 obtain ⟨hi, hC⟩ := hp
 dsimp only at hi hC ⊢
 refine gA ?_
 refine gI (fun hli => ?_) fun hli => ?_
 ·have hbi := l05Bit_ok s i hb (by omega)
  have hdu := l03Dual_ok t hc i (by omega)
  rw [← h.dI (by omega)] at hdu
  have hdl := h.dlt (show i < t.length by omega)
  have mi := hm i (by omega)
  refine ats_skip ?_
  (repeat refine ats_seq ?_); refine ats_block ?_
  refine gC fun K hK => ?_
  first | refine fcall_data (hbi) rfl ?_ | refine YR_intro (acall_data (hbi) rfl) ?_
  simp only [go_sem, seval]
  refine hK _ ?_; clear hK K
  refine gI (fun hx => ?_) fun hx => ?_
  ·refine ats_exit (bq_x ?_)
   refine gB ?_
   refine ⟨(i + 1, o),  ⟨by dsimp only; omega, hC.incI fun hb2 => by rw [hb2] at hx; cases hx⟩, by omega, .inl ⟨by simp only [leS, Nat.reduceEqDiff, ↓reduceIte, true_and, and_true]; omega,  rfl⟩⟩
  ·have hbt : s.testBit i = true := by simpa using hx
   refine ats_skip ?_
   have eo := orS (full_in h16 hC.lt) (full_in h16 (pow_lt hdl))
   have esh := shl1 (show dN t i ≤ 62 by omega)
   have hC := hC.add hdl (.inr (.inr ⟨i, by omega, hbt, .inl rfl⟩))
   have hdd : (o ||| 2 ^ dN t i).testBit (dN t i) = true := or_bit.2 (.inr (pow_bit.2 rfl))
   refine gC fun K hK => ?_
   first | refine fcall_data (hdu) rfl ?_ | refine YR_intro (acall_data (hdu) rfl) ?_
   simp only [go_sem, seval]
   rw [esh, eo]
   (repeat refine aI (hb := ?_))
   refine hK _ ?_; clear hK K
   generalize o ||| 2 ^ dN t i = o at hC hdd ⊢
   refine gA ?_
   (repeat refine ats_seq ?_); refine ats_loop (fun p : Nat × Nat => ⟨[(1, .int s), (2, .bptr 0 0), (5, .int p.2), (6, .int t.length), (7, .int i), (8, .int p.1)], [(0, .bx [.l3 t])]⟩) (fun p => p.1 ≤ t.length ∧ Cm t s p.2 i p.1 0 ∧ p.2.testBit (dN t i) = true) (fun p => t.length - p.1) (0, o) ⟨Nat.zero_le _, hC, hdd⟩ (by
    refine And.intro ?_ rfl; simp only [leS, Nat.reduceEqDiff, ↓reduceIte, true_and, and_true]
    rfl) (fun p hp => ?_)
   obtain ⟨j, o⟩ := p
   obtain ⟨hj, hC, hdd⟩ := hp
   dsimp only at hj hC hdd ⊢
   refine gA ?_
   refine gI (fun hlj => ?_) fun hlj => ?_
   ·have hbj := l05Bit_ok s j hb (by omega)
    have mj := mi.2 j (by omega)
    refine ats_skip ?_
    (repeat refine ats_seq ?_); refine ats_block ?_
    refine gA ?_
    (repeat refine ats_seq ?_); refine ats_loop (fun p : Nat × Nat => ⟨[(1, .int s), (2, .bptr 0 0), (5, .int p.2), (6, .int t.length), (7, .int i), (8, .int j), (9, .int p.1)], [(0, .bx [.l3 t])]⟩) (fun p => p.1 ≤ t.length ∧ Cm t s p.2 i j p.1 ∧ p.2.testBit (dN t i) = true) (fun p => t.length - p.1) (0, o) ⟨Nat.zero_le _, hC, hdd⟩ (by
     refine And.intro ?_ rfl; simp only [leS, Nat.reduceEqDiff, ↓reduceIte, true_and, and_true]
     rfl) (fun p hp => ?_)
    obtain ⟨k, o⟩ := p
    obtain ⟨hk, hC, hdd⟩ := hp
    dsimp only at hk hC hdd ⊢
    refine gC fun K hK => ?_
    first | refine YR_intro (fun _ => acall_data (hbj) rfl) ?_ | refine YR_intro (acall_data (hbj) rfl) ?_
    simp only [go_sem, seval]
    refine hK _ ?_; clear hK K
    refine gI (fun hlk => ?_) fun hlk => ?_
    ·simp only [Bool.or_eq_true, Bool.or_eq_false_iff, Bool.and_eq_true, Bool.and_eq_false_iff, decide_eq_true_eq, decide_eq_false_iff_not, Bool.not_eq_true', Bool.not_eq_false'] at hlk
     have ml := mi.1
     have rl := mj.1
     have esh := shl1 (show k ≤ 62 by omega)
     have eo := orS (full_in h16 hC.lt) (full_in h16 (pow_lt (show k < t.length by omega)))
     refine ats_skip ?_
     (repeat refine ats_seq ?_); refine ats_block ?_
     refine gB ?_
     refine gI (fun hp => ?_) fun hp => ?_
     ·have hsp : SpP t s k := .inr (.inr ⟨i, by omega, hbt, .inr ⟨j, by omega, hlk.2, hp⟩⟩)
      have hC := hC.add (show k < t.length by omega) hsp
      refine gC fun K hK => ?_
      rw [esh, eo]
      (repeat refine aI (hb := ?_))
      refine hK _ ?_; clear hK K
      refine gB ?_
      refine ⟨(k + 1, o ||| 2 ^ k),  ⟨by dsimp only; omega, hC.incK fun _ _ _ => or_bit.2 (.inr (pow_bit.2 rfl)), or_bit.2 (.inl hdd)⟩, by omega, .inl ⟨by simp only [leS, Nat.reduceEqDiff, ↓reduceIte, true_and, and_true]; omega,  rfl⟩⟩
     ·refine ats_skip ?_
      refine gB ?_
      refine ⟨(k + 1, o),  ⟨by dsimp only; omega, hC.incK fun ho _ _ => absurd ho hp, hdd⟩, by omega, .inl ⟨by simp only [leS, Nat.reduceEqDiff, ↓reduceIte, true_and, and_true]; omega,  rfl⟩⟩
    ·simp only [Bool.or_eq_true, Bool.or_eq_false_iff, Bool.and_eq_true, Bool.and_eq_false_iff, decide_eq_true_eq, decide_eq_false_iff_not, Bool.not_eq_true', Bool.not_eq_false'] at hlk
     refine ats_exit (lq_x ?_)
     refine gB ?_
     refine ⟨(j + 1, o),  ⟨by dsimp only; omega, hC.incJ fun hb2 => by rcases hlk with h1 | h1; exact Int.ofNat_le.1 (Int.not_lt.1 h1); (rw [hb2] at h1; cases h1), hdd⟩, by omega, .inl ⟨by simp only [leS, Nat.reduceEqDiff, ↓reduceIte, true_and, and_true]; omega,  rfl⟩⟩
   ·refine ats_exit (lq_x ?_)
    refine gB ?_
    refine ⟨(i + 1, o),  ⟨by dsimp only; omega, hC.incI fun _ => ⟨by omega, hdd⟩⟩, by omega, .inl ⟨by simp only [leS, Nat.reduceEqDiff, ↓reduceIte, true_and, and_true]; omega,  rfl⟩⟩
 ·obtain rfl : i = t.length := by omega
  have e := hC.fin hs
  refine ats_exit (lq_x ?_)
  refine gA ?_
  refine ats_ret (finI rfl ?_)
  rw [e]
end Go.Proofs.YtfnokakbdehlgaaDoor
namespace Go.Proofs.YtfnokakbdehlgaaDoor
open Go Go.Aw Go.Pl
theorem l05From_ok (t : Cu) (h : RingP t) (s : Nat) (hs : s < 2 ^ t.length) : PureCall Tryd.prog 72 [.agg [.l3 t], .int s] (.int (clo t s : Nat)) := by
 have hS := fun u hu => l05Spread_ok t h u hu
 have h16 := h.cube.2.1
 have h0 := hS s hs
 refine PureCall.intro (n := 17) (rs := [.tmp 4]) Tryd.call72 Tryd.func72 rfl rfl rfl (by simp only [List.length_cons, List.length_nil]; omega) (fun cx hcx => ats_of ?_); simp only [argSlots, Nat.zero_add, Nat.reduceAdd]
 refine gA ?_
 refine gC fun K hK => ?_
 first | refine fcall_data (h0) rfl ?_ | refine YR_intro (acall_data (h0) rfl) ?_
 simp only [go_sem, seval]
 refine hK _ ?_; clear hK K
 (repeat refine ats_seq ?_); refine ats_loop (fun u : Nat => ⟨[(1, .int u), (2, .bptr 0 0), (5, .int (spr t u : Nat))], [(0, .bx [.l3 t])]⟩) (fun u => u < 2 ^ t.length ∧ Sub s u ∧ Sub u (clo t s)) (fun u => 2 ^ t.length - u) s ⟨hs, Sub.refl s, clo_sub hs⟩ (by
  refine And.intro ?_ rfl; simp only [leS, Nat.reduceEqDiff, ↓reduceIte, true_and, and_true]
  done) (fun u hu => ?_)
 obtain ⟨hu, h1, h2⟩ := hu
 have hS1 := hS (spr t u) spr_lt
 have b1 := full_in h16 (spr_lt (t := t) (s := u))
 refine gA ?_
 refine gI (fun hne => ?_) fun hne => ?_
 ·have hg := spr_grow hu (fun e => by rw [e] at hne; exact hne rfl)
  have hlt := spr_lt (t := t) (s := u)
  refine ats_skip ?_
  (repeat refine ats_seq ?_); refine ats_block ?_
  refine gA ?_
  refine gC fun K hK => ?_
  first | refine fcall_data (hS1) rfl ?_ | refine YR_intro (acall_data (hS1) rfl) ?_
  simp only [go_sem, seval]
  refine hK _ ?_; clear hK K
  refine ⟨spr t u,  ⟨spr_lt, h1.trans (spr_sub hu), spr_in h.clo_clos h2⟩, by omega, .inl ⟨by simp only [leS, Nat.reduceEqDiff, ↓reduceIte, true_and, and_true]; done,  rfl⟩⟩
 ·have e : spr t u = u := by omega
  have e2 := clo_of h h1 h2 ((h.spr_clos hu).1 e)
  refine ats_exit (lq_x ?_)
  refine gA ?_
  refine ats_ret (finI rfl ?_)
  rw [← e2]
theorem l05Is_ok (t : Cu) (h : RingP t) (s : Nat) (hs : s < 2 ^ t.length) : PureCall Tryd.prog 60 [.agg [.l3 t], .int s] (.bool (bd (ClosP t s))) := by
 have h0 := l05Spread_ok t h s hs
 have hi := h.spr_clos hs
 refine PureCall.intro (n := 10) (rs := [.tmp 4]) Tryd.call60 Tryd.func60 rfl rfl rfl (by simp only [List.length_cons, List.length_nil]; omega) (fun cx hcx => ats_of ?_); simp only [argSlots, Nat.zero_add, Nat.reduceAdd]
 refine gA ?_
 refine gC fun K hK => ?_
 first | refine fcall_data (h0) rfl ?_ | refine YR_intro (acall_data (h0) rfl) ?_
 simp only [go_sem, seval]
 refine hK _ ?_; clear hK K
 refine ats_ret (finB rfl ?_)
 by_cases e : spr t s = s
 ·rw [bd_true (hi.1 e), e]; simp
 ·rw [bd_false (fun hc => e (hi.2 hc))]
  exact decide_eq_false (by omega)
theorem l05Code_ok (t : Cu) (x : Int) : PureCall Tryd.prog 59 [.agg [.l3 t], .int x] (.int (scA t x)) := by
 have h0 := l03Is_ok t
 cases hr : isRing t with
 | false =>
  rw [hr] at h0
  have e : scA t x = 1 := by unfold scA; rw [hr]; rfl
  rw [e]
  refine PureCall.intro (n := 15) (rs := [.tmp 4]) Tryd.call59 Tryd.func59 rfl rfl rfl (by simp only [List.length_cons, List.length_nil]; omega) (fun cx hcx => ats_of ?_); simp only [argSlots, Nat.zero_add, Nat.reduceAdd]
  refine gA ?_
  (repeat refine ats_seq ?_); refine ats_block ?_
  refine gC fun K hK => ?_
  first | refine fcall_data (h0) rfl ?_ | refine YR_intro (acall_data (h0) rfl) ?_
  simp only [go_sem, seval]
  refine hK _ ?_; clear hK K
  (repeat refine ats_seq ?_); refine ats_yes rfl trivial ?_
  refine gA ?_
  refine ats_ret (finI rfl ?_)
  rfl
 | true =>
  rw [hr] at h0
  have hA := l05All_ok t (isRing_P hr).cube.2.1
  have hI := l01In_ok x 0 (2 ^ t.length - 1 : Nat)
  have e : scA t x = if 0 ≤ x ∧ x ≤ (2 ^ t.length - 1 : Nat) then 0 else 2 := by unfold scA; rw [hr]; rfl
  rw [e]
  refine PureCall.intro (n := 15) (rs := [.tmp 4]) Tryd.call59 Tryd.func59 rfl rfl rfl (by simp only [List.length_cons, List.length_nil]; omega) (fun cx hcx => ats_of ?_); simp only [argSlots, Nat.zero_add, Nat.reduceAdd]
  refine gA ?_
  (repeat refine ats_seq ?_); refine ats_block ?_
  refine gC fun K hK => ?_
  first | refine fcall_data (h0) rfl ?_ | refine YR_intro (acall_data (h0) rfl) ?_
  simp only [go_sem, seval]
  refine hK _ ?_; clear hK K
  (repeat refine ats_seq ?_); refine ats_no rfl trivial ?_
  refine gC fun K hK => ?_
  first | refine fcall_data (hA) rfl ?_ | refine YR_intro (acall_data (hA) rfl) ?_
  simp only [go_sem, seval]
  first | refine fcall_data (hI) rfl ?_ | refine YR_intro (acall_data (hI) rfl) ?_
  simp only [go_sem, seval]
  refine hK _ ?_; clear hK K
  refine gI (fun hx => ?_) fun hx => ?_
  ·refine gA ?_
   refine ats_ret (finI rfl ?_)
   rw [if_neg (fun hh => by simp [hh.1, hh.2] at hx)]
  ·refine ats_skip ?_
   refine gA ?_
   refine ats_ret (finI rfl ?_)
   simp only [Bool.not_eq_false', Bool.and_eq_true, decide_eq_true_eq] at hx
   rw [if_pos hx]
theorem specIsS_ok (t : Cu) (x : Int) : PureCall Tryd.prog 31 [.agg [.l3 t], .int x] (.tup [.bool (isS t x).1, .int (isS t x).2]) := by
 have h0 := l05Code_ok t x
 by_cases hc : scA t x = 0
 ·have e : isS t x = (bd (ClosP t x.toNat), 0) := if_pos hc
  rw [e]
  obtain ⟨hr, hx0, hlt, ex⟩ := scA_ok hc
  rw [hc] at h0
  have hI := l05Is_ok t (isRing_P hr) x.toNat hlt
  rw [ex] at hI
  refine PureCall.intro (n := 16) (rs := [.tmp 4, .tmp 5]) Tryd.call31 Tryd.func31 rfl rfl rfl (by simp only [List.length_cons, List.length_nil]; omega) (fun cx hcx => ats_of ?_); simp only [argSlots, Nat.zero_add, Nat.reduceAdd]
  refine gA ?_
  refine gC fun K hK => ?_
  first | refine fcall_data (h0) rfl ?_ | refine YR_intro (acall_data (h0) rfl) ?_
  simp only [go_sem, seval]
  refine hK _ ?_; clear hK K
  refine gA ?_
  (repeat refine ats_seq ?_); refine ats_no rfl trivial ?_
  refine ats_skip ?_
  refine gC fun K hK => ?_
  first | refine fcall_data (hI) rfl ?_ | refine YR_intro (acall_data (hI) rfl) ?_
  simp only [go_sem, seval]
  refine hK _ ?_; clear hK K
  exact ats_ret (fin2 trivial trivial rfl)
 ·have e : isS t x = (false, scA t x) := if_neg hc
  rw [e]
  refine PureCall.intro (n := 16) (rs := [.tmp 4, .tmp 5]) Tryd.call31 Tryd.func31 rfl rfl rfl (by simp only [List.length_cons, List.length_nil]; omega) (fun cx hcx => ats_of ?_); simp only [argSlots, Nat.zero_add, Nat.reduceAdd]
  refine gA ?_
  refine gC fun K hK => ?_
  first | refine fcall_data (h0) rfl ?_ | refine YR_intro (acall_data (h0) rfl) ?_
  simp only [go_sem, seval]
  refine hK _ ?_; clear hK K
  refine gA ?_
  refine gI (fun hx => ?_) fun hx => ?_
  ·refine gA ?_
   exact ats_ret (fin2 trivial trivial rfl)
  ·exact (hc (by first | exact hx | simpa using hx)).elim
theorem l05Labels_ok (t : Cu) (h16 : t.length ≤ 16) (s : Nat) (hs : s < 65536) : FreshCall Tryd.prog 84 [.agg [.l3 t], .int s] (.l1 (lbI t.length s)) := by
 refine FreshCall.intro (n := 23) (rs := [.tmp 4]) Tryd.call84 Tryd.func84 rfl rfl rfl (by simp only [List.length_cons, List.length_nil]; omega) (fun cx hcx => ats_of ?_); simp only [argSlots, Nat.zero_add, Nat.reduceAdd]
 refine gA ?_
 refine gB ?_
 refine gA ?_
 (repeat refine ats_seq ?_); refine ats_loop (fun i : Nat => ⟨[(1, .int s), (2, .bptr 0 0), (5, .ref 1 []), (6, .int i)], [(0, .bx [.l3 t]), (1, .t1 (lbI i s))]⟩) (fun i => i ≤ t.length) (fun i => t.length - i) 0 (Nat.zero_le _) (by refine And.intro ?_ rfl; simp only [leS, Nat.reduceEqDiff, ↓reduceIte, true_and, and_true]; repeat' (first | rfl | with_reducible refine And.intro ?_ ?_ | omega)) (fun i hi => ?_)
 have hl : (lbI i s).length ≤ i := by rw [lbI_len]; exact lbl_len
 refine gB ?_
 refine gI (fun hli => ?_) fun hli => ?_
 ·have hb := l05Bit_ok s i hs (by omega)
  refine ats_skip ?_
  (repeat refine ats_seq ?_); refine ats_block ?_
  cases hx : s.testBit i with
  | true =>
   rw [hx] at hb
   refine gC fun K hK => ?_
   first | refine fcall_data (hb) rfl ?_ | refine YR_intro (acall_data (hb) rfl) ?_
   simp only [go_sem, seval]
   refine hK _ ?_; clear hK K
   (repeat refine ats_seq ?_); refine ats_yes rfl trivial ?_
   refine gB ?_
   refine gB ?_
   refine ⟨i + 1, by omega, by omega, .inr ⟨[2], by simp only [killL, List.map_cons, List.map_nil, killA, killAs, qOf, rmT, killH, killT, List.filter_cons, List.filter_nil, List.contains_cons, List.contains_nil, SlotsLe, St.get, slotGet, Nat.reduceEqDiff, Nat.reduceBEq, Bool.or_false, Bool.or_true, Bool.false_and, Bool.not_true, Bool.not_false, Bool.false_eq_true, ↓reduceIte, if_true, if_false, AV.int.injEq, AV.bool.injEq, AV.l1.injEq, AV.l2.injEq, AV.l3.injEq, true_and, and_true]; omega, by simp only [killL, List.map_cons, List.map_nil, killA, killAs, qOf, rmT, killH, killT, List.filter_cons, List.filter_nil, List.contains_cons, List.contains_nil, SlotsLe, St.get, slotGet, Nat.reduceEqDiff, Nat.reduceBEq, Bool.or_false, Bool.or_true, Bool.false_and, Bool.not_true, Bool.not_false, Bool.false_eq_true, ↓reduceIte, if_true, if_false, AV.int.injEq, AV.bool.injEq, AV.l1.injEq, AV.l2.injEq, AV.l3.injEq, true_and, and_true]; rw [← lbI_yes hx]⟩⟩
  | false =>
   rw [hx] at hb
   refine gC fun K hK => ?_
   first | refine fcall_data (hb) rfl ?_ | refine YR_intro (acall_data (hb) rfl) ?_
   simp only [go_sem, seval]
   refine hK _ ?_; clear hK K
   (repeat refine ats_seq ?_); refine ats_no rfl trivial ?_
   refine ats_skip ?_
   refine gB ?_
   refine ⟨i + 1,  by omega, by omega, .inl ⟨by simp only [leS, Nat.reduceEqDiff, ↓reduceIte, true_and, and_true]; omega,  by rw [← lbI_no hx]⟩⟩
 ·obtain rfl : i = t.length := by omega
  refine ats_exit (lq_x ?_)
  refine gA ?_
  exact ats_ret (ownV (is := [1]) rfl ⟨rfl, trivial⟩ rfl (by simp))
theorem specSf_ok (t : Cu) (xs : List Int) (hxl : xs.length ≤ 1048576) : PureCall Tryd.prog 39 [.agg [.l3 t], .l1 xs] (.tup [.int (sfR t xs).1, .int (sfR t xs).2]) := by
 have h0 := l03Is_ok t
 cases hr : isRing t with
 | false =>
  rw [hr] at h0
  have e : sfR t xs = (0, 1) := by unfold sfR; rw [hr]; rfl
  rw [e]
  refine PureCall.intro (n := 35) (rs := [.tmp 4, .tmp 5]) Tryd.call39 Tryd.func39 rfl rfl rfl (by simp only [List.length_cons, List.length_nil]; omega) (fun cx hcx => ats_of ?_); simp only [argSlots, Nat.zero_add, Nat.reduceAdd]
  refine gA ?_
  refine gC fun K hK => ?_
  first | refine fcall_data (h0) rfl ?_ | refine YR_intro (acall_data (h0) rfl) ?_
  simp only [go_sem, seval]
  refine hK _ ?_; clear hK K
  (repeat refine ats_seq ?_); refine ats_yes rfl trivial ?_
  refine gA ?_
  exact ats_ret (fin2 trivial trivial rfl)
 | true =>
  have h := isRing_P hr
  have h16 := h.cube.2.1
  rw [hr] at h0
  obtain ⟨q, eq⟩ : ∃ q, sfR t xs = q := ⟨_, rfl⟩
  rw [eq]
  unfold sfR at eq
  rw [hr, if_pos rfl] at eq
  refine PureCall.intro (n := 35) (rs := [.tmp 4, .tmp 5]) Tryd.call39 Tryd.func39 rfl rfl rfl (by simp only [List.length_cons, List.length_nil]; omega) (fun cx hcx => ats_of ?_); simp only [argSlots, Nat.zero_add, Nat.reduceAdd]
  refine gA ?_
  refine gC fun K hK => ?_
  first | refine fcall_data (h0) rfl ?_ | refine YR_intro (acall_data (h0) rfl) ?_
  simp only [go_sem, seval]
  refine hK _ ?_; clear hK K
  (repeat refine ats_seq ?_); refine ats_no rfl trivial ?_
  refine ats_skip ?_
  refine gA ?_
  refine gA ?_
  (repeat refine ats_seq ?_); refine ats_loop (fun p : Nat × Nat => ⟨[(1, .l1 xs), (2, .bptr 0 0), (6, .int p.2), (7, .int p.1)], [(0, .bx [.l3 t])]⟩) (fun p => p.1 ≤ xs.length ∧ p.2 = frS' t.length xs p.1 ||| 1 ∧ ∀ i, i < p.1 → lblB t (xs.getD i 0) = true) (fun p => xs.length - p.1) (0, 1) ⟨Nat.zero_le _, by rw [frS'_zero]; rfl, fun i hi => absurd hi (Nat.not_lt_zero i)⟩ (by
   refine And.intro ?_ rfl; simp only [leS, Nat.reduceEqDiff, ↓reduceIte, true_and, and_true]
   exact ⟨rfl, rfl⟩) (fun p hp => ?_)
  obtain ⟨i, o⟩ := p
  obtain ⟨hi, ho, hall⟩ := hp
  dsimp only at hi ho hall ⊢
  have hlo : o < 2 ^ t.length := by rw [ho]; exact or_lt frS'_lt (by have := Nat.pow_lt_pow_right (show 1 < 2 by decide) h.pos; simpa using this)
  refine gA ?_
  refine gI (fun hli => ?_) fun hli => ?_
  ·have hL := l03Label_ok t h16 (xs.getD i 0)
   refine ats_skip ?_
   (repeat refine ats_seq ?_); refine ats_block ?_
   (repeat refine ats_seq ?_); refine ats_pick (fix0 hcx) mixed (by kernel_rfl) fun K hK => ?_; simp only [go_sem, seval]
   (repeat refine aI (hb := ?_))
   first | refine fcall_data (hL) rfl ?_ | refine YR_intro (acall_data (hL) rfl) ?_
   simp only [go_sem, seval]
   refine hK _ ?_; clear hK K
   refine gI (fun hx => ?_) fun hx => ?_
   ·refine gA ?_
    rw [if_neg (fun hh => by rw [bd_iff.1 hh i (by omega)] at hx; cases hx)] at eq
    subst eq
    exact ats_ret (fin2 trivial trivial rfl)
   ·have hx : lblB t (xs.getD i 0) = true := by simpa using hx
    have hb := lblB_iff.1 hx
    obtain ⟨x, ex⟩ : ∃ x : Nat, xs.getD i 0 = (x : Int) := ⟨(xs.getD i 0).toNat, by omega⟩
    rw [ex] at hb
    have esh := shl1 (show x ≤ 62 by omega)
    have eo := orS (full_in h16 hlo) (full_in h16 (pow_lt (show x < t.length by omega)))
    refine ats_skip ?_
    refine gC fun K hK => ?_
    rw [ex, esh, eo]
    (repeat refine aI (hb := ?_))
    refine hK _ ?_; clear hK K
    refine gB ?_
    refine ⟨(i + 1, o ||| 2 ^ x),  ⟨by dsimp only; omega, by dsimp only; rw [ho, ← frS'_step (show x < t.length by omega) ex, Nat.or_assoc, Nat.or_comm 1, Nat.or_assoc], fun a ha => by dsimp only at ha; by_cases e : a = i; subst e; exact hx; exact hall a (by omega)⟩, by omega, .inl ⟨by simp only [leS, Nat.reduceEqDiff, ↓reduceIte, true_and, and_true]; omega,  rfl⟩⟩
  ·obtain rfl : i = xs.length := by omega
   have hF := l05From_ok t h o hlo
   rw [ho, clo_or1, ← ho] at hF
   refine ats_exit (lq_x ?_)
   refine gC fun K hK => ?_
   first | refine fcall_data (hF) rfl ?_ | refine YR_intro (acall_data (hF) rfl) ?_
   simp only [go_sem, seval]
   refine hK _ ?_; clear hK K
   rw [if_pos (bd_true hall)] at eq
   subst eq
   exact ats_ret (fin2 trivial trivial rfl)
theorem l05Subrings_ok (t : Cu) (h : RingP t) : FreshCall Tryd.prog 106 [.agg [.l3 t]] (.l1 (allS t (2 ^ (t.length - 1)))) := by
 have h16 := h.cube.2.1
 have hp := h.pos
 have hA := l05All_ok t h16
 have h2 := p16 h16
 have e2 : 2 ^ t.length = 2 * 2 ^ (t.length - 1) := by
  rw [show t.length = (t.length - 1) + 1 by omega, Nat.pow_succ, Nat.mul_comm]
  rfl
 refine FreshCall.intro (n := 20) (rs := [.tmp 2]) Tryd.call106 Tryd.func106 rfl rfl rfl (by simp only [List.length_cons, List.length_nil]; omega) (fun cx hcx => ats_of ?_); simp only [argSlots, Nat.zero_add, Nat.reduceAdd]
 refine gA ?_
 refine gB ?_
 refine gA ?_
 (repeat refine ats_seq ?_); refine ats_loop (fun i : Nat => ⟨[(1, .bptr 0 0), (3, .ref 1 []), (4, .int ((2 * i + 1 : Nat) : Int))], [(0, .bx [.l3 t]), (1, .t1 (allS t i))]⟩) (fun i => i ≤ 2 ^ (t.length - 1)) (fun i => 2 ^ (t.length - 1) - i) 0 (Nat.zero_le _) (by refine And.intro ?_ rfl; simp only [leS, Nat.reduceEqDiff, ↓reduceIte, true_and, and_true]; repeat' (first | rfl | with_reducible refine And.intro ?_ ?_ | omega)) (fun i hi => ?_)
 have hl := allS_len (t := t) (m := i)
 refine gC fun K hK => ?_
 first | refine fcall_data (hA) rfl ?_ | refine YR_intro (acall_data (hA) rfl) ?_
 simp only [go_sem, seval]
 refine hK _ ?_; clear hK K
 refine gI (fun hli => ?_) fun hli => ?_
 ·have hI := l05Is_ok t h (2 * i + 1) (by omega)
  refine ats_skip ?_
  (repeat refine ats_seq ?_); refine ats_block ?_
  refine gC fun K hK => ?_
  first | refine fcall_data (hI) rfl ?_ | refine YR_intro (acall_data (hI) rfl) ?_
  simp only [go_sem, seval]
  refine hK _ ?_; clear hK K
  refine gI (fun hx => ?_) fun hx => ?_
  ·refine gB ?_
   refine gB ?_
   refine ⟨i + 1, by omega, by omega, .inr ⟨[2], by simp only [killL, List.map_cons, List.map_nil, killA, killAs, qOf, rmT, killH, killT, List.filter_cons, List.filter_nil, List.contains_cons, List.contains_nil, SlotsLe, St.get, slotGet, Nat.reduceEqDiff, Nat.reduceBEq, Bool.or_false, Bool.or_true, Bool.false_and, Bool.not_true, Bool.not_false, Bool.false_eq_true, ↓reduceIte, if_true, if_false, AV.int.injEq, AV.bool.injEq, AV.l1.injEq, AV.l2.injEq, AV.l3.injEq, true_and, and_true]; omega, by simp only [killL, List.map_cons, List.map_nil, killA, killAs, qOf, rmT, killH, killT, List.filter_cons, List.filter_nil, List.contains_cons, List.contains_nil, SlotsLe, St.get, slotGet, Nat.reduceEqDiff, Nat.reduceBEq, Bool.or_false, Bool.or_true, Bool.false_and, Bool.not_true, Bool.not_false, Bool.false_eq_true, ↓reduceIte, if_true, if_false, AV.int.injEq, AV.bool.injEq, AV.l1.injEq, AV.l2.injEq, AV.l3.injEq, true_and, and_true]; (conv => rhs; unfold allS); rw [if_pos (bd_true hx)]⟩⟩
  ·refine ats_skip ?_
   refine gB ?_
   refine ⟨i + 1,  by omega, by omega, .inl ⟨by simp only [leS, Nat.reduceEqDiff, ↓reduceIte, true_and, and_true]; omega,  by (conv => rhs; unfold allS); rw [bd_false hx, if_neg (by decide), List.append_nil]⟩⟩
 ·obtain rfl : i = 2 ^ (t.length - 1) := by omega
  refine ats_exit (lq_x ?_)
  refine gA ?_
  exact ats_ret (ownV (is := [1]) rfl ⟨rfl, trivial⟩ rfl (by simp))
end Go.Proofs.YtfnokakbdehlgaaDoor
namespace Go.Proofs.YtfnokakbdehlgaaDoor
open Go Go.Aw Go.Pl
end Go.Proofs.YtfnokakbdehlgaaDoor
