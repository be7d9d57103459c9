import Derived.Test.YtjcfefgbieeheaaDoorLib7
import Derived.Test.YtjcfefgbieeheaaDoorTy
import Derived.Test.YtjcfefgbieeheaaDoorRows
import Derived.Shelf.Spec.TrailingZeros
import Derived.Test.YtjcfefgbieeheaaDoorQd1
import Derived.Test.YtjcfefgbieeheaaDoorWx2
import Derived.Test.YtjcfefgbieeheaaDoorWx3
import Derived.Test.YtjcfefgbieeheaaDoorWz1
import Derived.Test.YtjcfefgbieeheaaDoorQd2
set_option linter.unusedSimpArgs false
set_option linter.unusedVariables false
namespace Go.Proofs.YtjcfefgbieeheaaDoor
open Go Go.Aw Go.RowKit
theorem tz_zero (w : World) : Calls Tryd.prog 59 #[.int .u64 0] w fun e w' => e = .returned (.int .i64 64) ∧ w' = w := by
 go_enter Tryd.func59, Tryd.ntmps59
 go_wp2
 go_ret
 exact ⟨rfl, rfl⟩
set_option maxHeartbeats 1000000 in
theorem tz_core (x k idx : Nat) (w : World) (hx0 : ((x : Int) == 0) = false)
  (key : bits BinOp.and IntKind.u64 (x : Int) (-(x : Int) % 18446744073709551616) * 285870213051353865 % 18446744073709551616 / 288230376151711744 = (idx : Int))
  (hi : idx < 64) (hk : k < 64) (hcell : w.cell? ⟨0, idx, none⟩ = some (.int .u8 k)) :
  Calls Tryd.prog 59 #[.int .u64 x] w fun e w' => e = .returned (.int .i64 k) ∧ w' = w := by
 go_enter Tryd.func59, Tryd.ntmps59
 go_wp2_with (simp only [key])
 go_ret
 exact ⟨rfl, rfl⟩
theorem tz_tab {w : World} (h : GlobOk w) (i : Nat) (hi : i < 64) : w.cell? ⟨0, i, none⟩ = some (.int .u8 ((Lib.deBruijn64tab.getD i 0 : Nat) : Int)) := by
 refine (h (0, (Lib.deBruijn64tab.map fun n : Nat => Value.int .u8 (n : Int))) (by unfold glC Lib.deBruijn64tab; exact List.mem_singleton.2 rfl)).2 i _ ?_
 rw [List.getElem?_map, List.getElem?_eq_getElem (show i < Lib.deBruijn64tab.length from hi), List.getD_eq_getElem?_getD, List.getElem?_eq_getElem (show i < Lib.deBruijn64tab.length from hi)]
 rfl
theorem tz_ok (x : Nat) (hx : x < 18446744073709551616) : PureCall Tryd.prog 59 [.ik .u64 x] (.int (Lib.ctz 64 x : Nat)) := by
 refine ⟨Tryd.call59, fun vs w S hS hd => ?_⟩
 match vs, hd with
 | [v], hd =>
  obtain rfl : v = .int .u64 x := by have := hd.1; simpa only [Rd, rep] using this
  have key : Calls Tryd.prog 59 #[.int .u64 x] w fun e w' => e = .returned (.int .i64 (Lib.ctz 64 x)) ∧ w' = w := by
   by_cases hx0 : x = 0
   ·subst hx0
    exact tz_zero w
   ·obtain ⟨hlow, hk⟩ := Lib.lowest_bit 64 x hx0 hx
    obtain ⟨hi, htab⟩ := Lib.deBruijn64_at _ hk
    have hcell := tz_tab hS.2 _ hi
    rw [htab] at hcell
    have hky := tz64_key x _ hx hx0 hlow
    simp only [IntKind.wrap_u64] at hky
    exact tz_core x _ _ w (by simp; omega) hky hi hk hcell
  refine key.mono ?_
  rintro e w' ⟨rfl, rfl⟩
  refine ⟨_, rfl, Below.refl _ _, ?_⟩
  simp only [Rd, rep]
  refine ⟨trivial, ?_⟩
  have : Lib.ctz 64 x ≤ 64 := by
   by_cases hx0 : x = 0
   ·subst hx0; decide
   ·have := (Lib.lowest_bit 64 x hx0 hx).2
    omega
  unfold InR
  omega
end Go.Proofs.YtjcfefgbieeheaaDoor
namespace Go.Proofs.YtjcfefgbieeheaaDoor
open Go Go.Aw Go.Pl
theorem l05Bit_ok (s i : Nat) (hs : s < 65536) (hi : i ≤ 62) : PureCall Tryd.prog 61 [.int s, .int i] (.bool (s.testBit i)) := by
 have e : andI (shrI s ((i : Int) % 18446744073709551616)) 1 = if s.testBit i then 1 else 0 := by
  rw [show (i : Int) % 18446744073709551616 = (i : Int) by omega]
  exact bit_get (by omega) (by omega)
 refine PureCall.intro (n := 11) (rs := [.tmp 4]) Tryd.call61 Tryd.func61 rfl rfl rfl (by simp only [List.length_cons, List.length_nil]; omega) (fun cx hcx => ats_of ?_); simp only [argSlots, Nat.zero_add, Nat.reduceAdd]
 refine gA ?_
 refine gB ?_
 refine ats_ret (finB rfl ?_)
 rw [e]
 cases h : s.testBit i <;> rfl
theorem l05Spread_ok (t : Cu) (h : RingP t) (s : Nat) (hs : s < 2 ^ t.length) : PureCall Tryd.prog 80 [.agg [.l3 t], .int s] (.int (spr t s : Nat)) := by
 have hc := h.cube
 have h16 := hc.2.1
 have hb := full_in h16 hs
 have hm := hc.2.2
 have e1 := or1 hb
 refine PureCall.intro (n := 65) (rs := [.tmp 4]) Tryd.call80 Tryd.func80 rfl rfl rfl (by simp only [List.length_cons, List.length_nil]; omega) (fun cx hcx => ats_of ?_); simp only [argSlots, Nat.zero_add, Nat.reduceAdd]
 refine gA ?_
 refine gC fun K hK => ?_
 rw [e1]
 refine hK _ ?_; clear hK K
 refine gA ?_
 refine gA ?_
 (repeat refine ats_seq ?_); refine ats_loop (fun p : Nat × Nat => ⟨[(1, .int s), (2, .bptr 0 0), (5, .int p.2), (6, .int t.length), (7, .int p.1)], [(0, .bx [.l3 t])]⟩) (fun p => p.1 ≤ t.length ∧ Cm t s p.2 p.1 0 0) (fun p => t.length - p.1) (0, s ||| 1) ⟨Nat.zero_le _, Cm.start hs h.pos⟩ (by
  refine And.intro ?_ rfl; simp only [leS, Nat.reduceEqDiff, ↓reduceIte, true_and, and_true]
  rfl) (fun p hp => ?_)
 obtain ⟨i, o⟩ := p
 obtain ⟨hi, hC⟩ := hp
 dsimp only at hi hC ⊢
 refine gA ?_
 refine gI (fun hli => ?_) fun hli => ?_
 ·have hbi := l05Bit_ok s i hb (by omega)
  have hdu := l03Dual_ok t hc i (by omega)
  rw [← h.dI (by omega)] at hdu
  have hdl := h.dlt (show i < t.length by omega)
  have mi := hm i (by omega)
  refine ats_skip ?_
  (repeat refine ats_seq ?_); refine ats_block ?_
  refine gC fun K hK => ?_
  first | refine fcall_data (hbi) rfl ?_ | refine YR_intro (acall_data (hbi) rfl) ?_
  simp only [go_sem, seval]
  refine hK _ ?_; clear hK K
  refine gI (fun hx => ?_) fun hx => ?_
  ·refine ats_exit (bq_x ?_)
   refine gB ?_
   refine ⟨(i + 1, o),  ⟨by dsimp only; omega, hC.incI fun hb2 => by rw [hb2] at hx; cases hx⟩, by omega, .inl ⟨by simp only [leS, Nat.reduceEqDiff, ↓reduceIte, true_and, and_true]; omega,  rfl⟩⟩
  ·have hbt : s.testBit i = true := by simpa using hx
   refine ats_skip ?_
   have eo := orS (full_in h16 hC.lt) (full_in h16 (pow_lt hdl))
   have esh := shl1 (show dN t i ≤ 62 by omega)
   have hC := hC.add hdl (.inr (.inr ⟨i, by omega, hbt, .inl rfl⟩))
   have hdd : (o ||| 2 ^ dN t i).testBit (dN t i) = true := or_bit.2 (.inr (pow_bit.2 rfl))
   refine gC fun K hK => ?_
   first | refine fcall_data (hdu) rfl ?_ | refine YR_intro (acall_data (hdu) rfl) ?_
   simp only [go_sem, seval]
   rw [esh, eo]
   (repeat refine aI (hb := ?_))
   refine hK _ ?_; clear hK K
   generalize o ||| 2 ^ dN t i = o at hC hdd ⊢
   refine gA ?_
   (repeat refine ats_seq ?_); refine ats_loop (fun p : Nat × Nat => ⟨[(1, .int s), (2, .bptr 0 0), (5, .int p.2), (6, .int t.length), (7, .int i), (8, .int p.1)], [(0, .bx [.l3 t])]⟩) (fun p => p.1 ≤ t.length ∧ Cm t s p.2 i p.1 0 ∧ p.2.testBit (dN t i) = true) (fun p => t.length - p.1) (0, o) ⟨Nat.zero_le _, hC, hdd⟩ (by
    refine And.intro ?_ rfl; simp only [leS, Nat.reduceEqDiff, ↓reduceIte, true_and, and_true]
    rfl) (fun p hp => ?_)
   obtain ⟨j, o⟩ := p
   obtain ⟨hj, hC, hdd⟩ := hp
   dsimp only at hj hC hdd ⊢
   refine gA ?_
   refine gI (fun hlj => ?_) fun hlj => ?_
   ·have hbj := l05Bit_ok s j hb (by omega)
    have mj := mi.2 j (by omega)
    refine ats_skip ?_
    (repeat refine ats_seq ?_); refine ats_block ?_
    refine gA ?_
    (repeat refine ats_seq ?_); refine ats_loop (fun p : Nat × Nat => ⟨[(1, .int s), (2, .bptr 0 0), (5, .int p.2), (6, .int t.length), (7, .int i), (8, .int j), (9, .int p.1)], [(0, .bx [.l3 t])]⟩) (fun p => p.1 ≤ t.length ∧ Cm t s p.2 i j p.1 ∧ p.2.testBit (dN t i) = true) (fun p => t.length - p.1) (0, o) ⟨Nat.zero_le _, hC, hdd⟩ (by
     refine And.intro ?_ rfl; simp only [leS, Nat.reduceEqDiff, ↓reduceIte, true_and, and_true]
     rfl) (fun p hp => ?_)
    obtain ⟨k, o⟩ := p
    obtain ⟨hk, hC, hdd⟩ := hp
    dsimp only at hk hC hdd ⊢
    refine gC fun K hK => ?_
    first | refine YR_intro (fun _ => acall_data (hbj) rfl) ?_ | refine YR_intro (acall_data (hbj) rfl) ?_
    simp only [go_sem, seval]
    refine hK _ ?_; clear hK K
    refine gI (fun hlk => ?_) fun hlk => ?_
    ·simp only [Bool.or_eq_true, Bool.or_eq_false_iff, Bool.and_eq_true, Bool.and_eq_false_iff, decide_eq_true_eq, decide_eq_false_iff_not, Bool.not_eq_true', Bool.not_eq_false'] at hlk
     have ml := mi.1
     have rl := mj.1
     have esh := shl1 (show k ≤ 62 by omega)
     have eo := orS (full_in h16 hC.lt) (full_in h16 (pow_lt (show k < t.length by omega)))
     refine ats_skip ?_
     (repeat refine ats_seq ?_); refine ats_block ?_
     refine gB ?_
     refine gI (fun hp => ?_) fun hp => ?_
     ·have hsp : SpP t s k := .inr (.inr ⟨i, by omega, hbt, .inr ⟨j, by omega, hlk.2, hp⟩⟩)
      have hC := hC.add (show k < t.length by omega) hsp
      refine gC fun K hK => ?_
      rw [esh, eo]
      (repeat refine aI (hb := ?_))
      refine hK _ ?_; clear hK K
      refine gB ?_
      refine ⟨(k + 1, o ||| 2 ^ k),  ⟨by dsimp only; omega, hC.incK fun _ _ _ => or_bit.2 (.inr (pow_bit.2 rfl)), or_bit.2 (.inl hdd)⟩, by omega, .inl ⟨by simp only [leS, Nat.reduceEqDiff, ↓reduceIte, true_and, and_true]; omega,  rfl⟩⟩
     ·refine ats_skip ?_
      refine gB ?_
      refine ⟨(k + 1, o),  ⟨by dsimp only; omega, hC.incK fun ho _ _ => absurd ho hp, hdd⟩, by omega, .inl ⟨by simp only [leS, Nat.reduceEqDiff, ↓reduceIte, true_and, and_true]; omega,  rfl⟩⟩
    ·simp only [Bool.or_eq_true, Bool.or_eq_false_iff, Bool.and_eq_true, Bool.and_eq_false_iff, decide_eq_true_eq, decide_eq_false_iff_not, Bool.not_eq_true', Bool.not_eq_false'] at hlk
     refine ats_exit (lq_x ?_)
     refine gB ?_
     refine ⟨(j + 1, o),  ⟨by dsimp only; omega, hC.incJ fun hb2 => by rcases hlk with h1 | h1; exact Int.ofNat_le.1 (Int.not_lt.1 h1); (rw [hb2] at h1; cases h1), hdd⟩, by omega, .inl ⟨by simp only [leS, Nat.reduceEqDiff, ↓reduceIte, true_and, and_true]; omega,  rfl⟩⟩
   ·refine ats_exit (lq_x ?_)
    refine gB ?_
    refine ⟨(i + 1, o),  ⟨by dsimp only; omega, hC.incI fun _ => ⟨by omega, hdd⟩⟩, by omega, .inl ⟨by simp only [leS, Nat.reduceEqDiff, ↓reduceIte, true_and, and_true]; omega,  rfl⟩⟩
 ·obtain rfl : i = t.length := by omega
  have e := hC.fin hs
  refine ats_exit (lq_x ?_)
  refine gA ?_
  refine ats_ret (finI rfl ?_)
  rw [e]
end Go.Proofs.YtjcfefgbieeheaaDoor
namespace Go.Proofs.YtjcfefgbieeheaaDoor
open Go Go.Aw Go.Pl
theorem l05From_ok (t : Cu) (h : RingP t) (s : Nat) (hs : s < 2 ^ t.length) : PureCall Tryd.prog 63 [.agg [.l3 t], .int s] (.int (clo t s : Nat)) := by
 have hS := fun u hu => l05Spread_ok t h u hu
 have h16 := h.cube.2.1
 have h0 := hS s hs
 refine PureCall.intro (n := 17) (rs := [.tmp 4]) Tryd.call63 Tryd.func63 rfl rfl rfl (by simp only [List.length_cons, List.length_nil]; omega) (fun cx hcx => ats_of ?_); simp only [argSlots, Nat.zero_add, Nat.reduceAdd]
 refine gA ?_
 refine gC fun K hK => ?_
 first | refine fcall_data (h0) rfl ?_ | refine YR_intro (acall_data (h0) rfl) ?_
 simp only [go_sem, seval]
 refine hK _ ?_; clear hK K
 (repeat refine ats_seq ?_); refine ats_loop (fun u : Nat => ⟨[(1, .int u), (2, .bptr 0 0), (5, .int (spr t u : Nat))], [(0, .bx [.l3 t])]⟩) (fun u => u < 2 ^ t.length ∧ Sub s u ∧ Sub u (clo t s)) (fun u => 2 ^ t.length - u) s ⟨hs, Sub.refl s, clo_sub hs⟩ (by
  refine And.intro ?_ rfl; simp only [leS, Nat.reduceEqDiff, ↓reduceIte, true_and, and_true]
  done) (fun u hu => ?_)
 obtain ⟨hu, h1, h2⟩ := hu
 have hS1 := hS (spr t u) spr_lt
 have b1 := full_in h16 (spr_lt (t := t) (s := u))
 refine gA ?_
 refine gI (fun hne => ?_) fun hne => ?_
 ·have hg := spr_grow hu (fun e => by rw [e] at hne; exact hne rfl)
  have hlt := spr_lt (t := t) (s := u)
  refine ats_skip ?_
  (repeat refine ats_seq ?_); refine ats_block ?_
  refine gA ?_
  refine gC fun K hK => ?_
  first | refine fcall_data (hS1) rfl ?_ | refine YR_intro (acall_data (hS1) rfl) ?_
  simp only [go_sem, seval]
  refine hK _ ?_; clear hK K
  refine ⟨spr t u,  ⟨spr_lt, h1.trans (spr_sub hu), spr_in h.clo_clos h2⟩, by omega, .inl ⟨by simp only [leS, Nat.reduceEqDiff, ↓reduceIte, true_and, and_true]; done,  rfl⟩⟩
 ·have e : spr t u = u := by omega
  have e2 := clo_of h h1 h2 ((h.spr_clos hu).1 e)
  refine ats_exit (lq_x ?_)
  refine gA ?_
  refine ats_ret (finI rfl ?_)
  rw [← e2]
theorem l05Adjoint_ok (t : Cu) (h : RingP t) : PureCall Tryd.prog 37 [.agg [.l3 t]] (.int (adj t : Nat)) := by
 have hc := h.cube
 have h16 := hc.2.1
 have hm := hc.2.2
 have h1 : (1 : Nat) < 2 ^ t.length := by have := Nat.pow_lt_pow_right (show 1 < 2 by decide) h.pos; simpa using this
 refine PureCall.intro (n := 44) (rs := [.tmp 2]) Tryd.call37 Tryd.func37 rfl rfl rfl (by simp only [List.length_cons, List.length_nil]; omega) (fun cx hcx => ats_of ?_); simp only [argSlots, Nat.zero_add, Nat.reduceAdd]
 refine gA ?_
 refine gA ?_
 refine gA ?_
 (repeat refine ats_seq ?_); refine ats_loop (fun p : Nat × Nat => ⟨[(1, .bptr 0 0), (3, .int p.2), (4, .int p.1)], [(0, .bx [.l3 t])]⟩) (fun p => p.1 ≤ t.length ∧ p.2 < 2 ^ t.length ∧ p.2.testBit 0 = true ∧ ∀ k, p.2.testBit k = true ↔ k < t.length ∧ (k = 0 ∨ ∃ a, a < p.1 ∧ a < t.length ∧ Oc t a (dN t a) k)) (fun p => t.length - p.1) (0, 1) ⟨Nat.zero_le _, h1, by decide, fun k => by
  dsimp only
  rw [one_bit]
  exact ⟨fun e => ⟨by rw [e]; exact h.pos, .inl e⟩, fun e => e.2.elim id fun ⟨a, ha, _⟩ => absurd ha (Nat.not_lt_zero a)⟩⟩ (by
  refine And.intro ?_ rfl; simp only [leS, Nat.reduceEqDiff, ↓reduceIte, true_and, and_true]
  exact ⟨rfl, rfl⟩) (fun p hp => ?_)
 obtain ⟨i, o⟩ := p
 obtain ⟨hi, ho, hz, hall⟩ := hp
 dsimp only at hi ho hz hall ⊢
 refine gA ?_
 refine gI (fun hli => ?_) fun hli => ?_
 ·have hdu := l03Dual_ok t hc i (by omega)
  rw [← h.dI (by omega)] at hdu
  have hdl := h.dlt (show i < t.length by omega)
  have mi := hm i (by omega)
  have ml := mi.1
  have mj := mi.2 (dN t i) hdl
  have rl := mj.1
  refine ats_skip ?_
  (repeat refine ats_seq ?_); refine ats_block ?_
  (repeat refine ats_seq ?_); refine ats_pick (fix0 hcx) mixed (by kernel_rfl) fun K hK => ?_; simp only [go_sem, seval]
  (repeat refine aI (hb := ?_))
  first | refine fcall_data (hdu) rfl ?_ | refine YR_intro (acall_data (hdu) rfl) ?_
  simp only [go_sem, seval]
  (repeat refine aI (hb := ?_))
  refine hK _ ?_; clear hK K
  refine gA ?_
  (repeat refine ats_seq ?_); refine ats_loop (fun p : Nat × Nat => ⟨[(1, .bptr 0 0), (3, .int p.2), (4, .int i), (5, .l1 ((t.getD i []).getD (dN t i) [])), (6, .int p.1)], [(0, .bx [.l3 t])]⟩) (fun p => p.1 ≤ t.length ∧ p.2 < 2 ^ t.length ∧ p.2.testBit 0 = true ∧ ∀ k, p.2.testBit k = true ↔ k < t.length ∧ ((k = 0 ∨ ∃ a, a < i ∧ a < t.length ∧ Oc t a (dN t a) k) ∨ (k < p.1 ∧ Oc t i (dN t i) k))) (fun p => t.length - p.1) (0, o) ⟨Nat.zero_le _, ho, hz, fun k => by
   dsimp only
   rw [hall k]
   exact ⟨fun e => ⟨e.1, .inl e.2⟩, fun e => ⟨e.1, e.2.elim id fun e2 => absurd e2.1 (Nat.not_lt_zero k)⟩⟩⟩ (by
   refine And.intro ?_ rfl; simp only [leS, Nat.reduceEqDiff, ↓reduceIte, true_and, and_true]
   rfl) (fun p hp => ?_)
  obtain ⟨j, o⟩ := p
  obtain ⟨hj, ho, hz, hall⟩ := hp
  dsimp only at hj ho hz hall ⊢
  refine gA ?_
  refine gI (fun hlj => ?_) fun hlj => ?_
  ·have esh := shl1 (show j ≤ 62 by omega)
   have eo := orS (full_in h16 ho) (full_in h16 (pow_lt (show j < t.length by omega)))
   refine ats_skip ?_
   (repeat refine ats_seq ?_); refine ats_block ?_
   refine gB ?_
   refine gI (fun hx => ?_) fun hx => ?_
   ·refine gC fun K hK => ?_
    rw [esh, eo]
    (repeat refine aI (hb := ?_))
    refine hK _ ?_; clear hK K
    refine gB ?_
    refine ⟨(j + 1, o ||| 2 ^ j),  ⟨by dsimp only; omega, or_lt ho (pow_lt (by omega)), or_bit.2 (.inl hz), fun k => by dsimp only; rw [or_bit, hall k, pow_bit]; exact ⟨fun e => e.elim (fun e => ⟨e.1, e.2.elim .inl fun e2 => .inr ⟨by omega, e2.2⟩⟩) fun e => ⟨by omega, .inr ⟨by omega, by rw [e]; exact hx⟩⟩, fun e => e.2.elim (fun e2 => .inl ⟨e.1, .inl e2⟩) fun e2 => by by_cases ek : k = j; exact .inr ek; exact .inl ⟨e.1, .inr ⟨by omega, e2.2⟩⟩⟩⟩, by omega, .inl ⟨by simp only [leS, Nat.reduceEqDiff, ↓reduceIte, true_and, and_true]; omega,  rfl⟩⟩
   ·refine ats_skip ?_
    refine gB ?_
    refine ⟨(j + 1, o),  ⟨by dsimp only; omega, ho, hz, fun k => by dsimp only; rw [hall k]; exact ⟨fun e => ⟨e.1, e.2.elim .inl fun e2 => .inr ⟨by omega, e2.2⟩⟩, fun e => ⟨e.1, e.2.elim .inl fun e2 => .inr ⟨by by_cases ek : k = j; subst ek; exact absurd e2.2 hx; omega, e2.2⟩⟩⟩⟩, by omega, .inl ⟨by simp only [leS, Nat.reduceEqDiff, ↓reduceIte, true_and, and_true]; omega,  rfl⟩⟩
  ·refine ats_exit (lq_x ?_)
   refine gB ?_
   refine ⟨(i + 1, o),  ⟨by dsimp only; omega, ho, hz, fun k => by dsimp only; rw [hall k]; exact ⟨fun e => ⟨e.1, e.2.elim (fun e2 => e2.imp id fun ⟨a, h1, h2, h3⟩ => ⟨a, by omega, h2, h3⟩) fun e2 => .inr ⟨i, by omega, by omega, e2.2⟩⟩, fun e => ⟨e.1, e.2.elim (fun e2 => .inl (.inl e2)) fun ⟨a, h1, h2, h3⟩ => by by_cases ea : a = i; subst ea; exact .inr ⟨by omega, h3⟩; exact .inl (.inr ⟨a, by omega, h2, h3⟩)⟩⟩⟩, by omega, .inl ⟨by simp only [leS, Nat.reduceEqDiff, ↓reduceIte, true_and, and_true]; omega,  rfl⟩⟩
 ·obtain rfl : i = t.length := by omega
  have eo : o = adU t ||| 1 := bits_ext fun k => by
   rw [hall k, or_bit, adU_bit, one_bit]
   exact ⟨fun e => e.2.elim .inr fun ⟨a, _, h2, h3⟩ => .inl ⟨e.1, a, h2, h3⟩, fun e => e.elim (fun e => ⟨e.1, .inr (by obtain ⟨a, h2, h3⟩ := e.2; exact ⟨a, h2, h2, h3⟩)⟩) fun e => ⟨by rw [e]; exact h.pos, .inl e⟩⟩
  have hF := l05From_ok t h o ho
  rw [eo, clo_or1, ← eo] at hF
  refine ats_exit (lq_x ?_)
  refine gC fun K hK => ?_
  first | refine fcall_data (hF) rfl ?_ | refine YR_intro (acall_data (hF) rfl) ?_
  simp only [go_sem, seval]
  refine hK _ ?_; clear hK K
  refine ats_ret (finI rfl ?_)
  rfl
end Go.Proofs.YtjcfefgbieeheaaDoor
namespace Go.Proofs.YtjcfefgbieeheaaDoor
open Go Go.Aw Go.Pl
theorem l05Cosets_ok (t : Cu) (h : RingP t) (s : Nat) (hs : ClosP t s) : FreshCall Tryd.prog 36 [.agg [.l3 t], .int s] (.l1 (clsL t.length (CoR t s))) := by
 have hc := h.cube
 have h16 := hc.2.1
 have hb := full_in h16 hs.lt
 have hm := hc.2.2
 refine FreshCall.intro (n := 68) (rs := [.tmp 4]) Tryd.call36 Tryd.func36 rfl rfl rfl (by simp only [List.length_cons, List.length_nil]; omega) (fun cx hcx => ats_of ?_); simp only [argSlots, Nat.zero_add, Nat.reduceAdd]
 refine gA ?_
 refine gA ?_
 refine gB ?_
 refine gA ?_
 (repeat refine ats_seq ?_); refine ats_loop (fun i : Nat => ⟨[(1, .int s), (2, .bptr 0 0), (5, .int t.length), (6, .ref 1 []), (7, .int 0), (8, .int i)], [(0, .bx [.l3 t]), (1, .t1 (List.replicate i (-1)))]⟩) (fun i => i ≤ t.length) (fun i => t.length - i) 0 (Nat.zero_le _) (by refine And.intro ?_ rfl; simp only [leS, Nat.reduceEqDiff, ↓reduceIte, true_and, and_true]; repeat' (first | rfl | with_reducible refine And.intro ?_ ?_ | omega)) (fun i hi => ?_)
 have hl : (List.replicate i (-1 : Int)).length = i := List.length_replicate
 refine gB ?_
 refine gI (fun hli => ?_) fun hli => ?_
 ·refine ats_skip ?_
  (repeat refine ats_seq ?_); refine ats_block ?_
  refine gB ?_
  refine gB ?_
  refine ⟨i + 1, by omega, by omega, .inr ⟨[2], by simp only [killL, List.map_cons, List.map_nil, killA, killAs, qOf, rmT, killH, killT, List.filter_cons, List.filter_nil, List.contains_cons, List.contains_nil, SlotsLe, St.get, slotGet, Nat.reduceEqDiff, Nat.reduceBEq, Bool.or_false, Bool.or_true, Bool.false_and, Bool.not_true, Bool.not_false, Bool.false_eq_true, ↓reduceIte, if_true, if_false, AV.int.injEq, AV.bool.injEq, AV.l1.injEq, AV.l2.injEq, AV.l3.injEq, true_and, and_true]; omega, by simp only [killL, List.map_cons, List.map_nil, killA, killAs, qOf, rmT, killH, killT, List.filter_cons, List.filter_nil, List.contains_cons, List.contains_nil, SlotsLe, St.get, slotGet, Nat.reduceEqDiff, Nat.reduceBEq, Bool.or_false, Bool.or_true, Bool.false_and, Bool.not_true, Bool.not_false, Bool.false_eq_true, ↓reduceIte, if_true, if_false, AV.int.injEq, AV.bool.injEq, AV.l1.injEq, AV.l2.injEq, AV.l3.injEq, true_and, and_true]; rw [List.replicate_succ']⟩⟩
 ·obtain rfl : i = t.length := by omega
  clear hl
  refine ats_exit (lq_x ?_)
  refine gA ?_
  (repeat refine ats_seq ?_); refine ats_loop (fun p : Nat × List Int => ⟨[(1, .int s), (2, .bptr 0 0), (5, .int t.length), (6, .ref 1 []), (7, .int (cnt (CoR t s) p.1 : Nat)), (9, .int p.1)], [(0, .bx [.l3 t]), (1, .t1 p.2)]⟩) (fun p => p.1 ≤ t.length ∧ CoO t s p.2 p.1) (fun p => t.length - p.1) (0, List.replicate t.length (-1)) ⟨Nat.zero_le _, CoO.start rfl⟩ (by
   refine And.intro ?_ rfl; simp only [leS, Nat.reduceEqDiff, ↓reduceIte, true_and, and_true]
   exact ⟨rfl, rfl⟩) (fun p hp => ?_)
  obtain ⟨i, o⟩ := p
  obtain ⟨hi, hO⟩ := hp
  dsimp only at hi hO ⊢
  have hlo := hO.len
  refine gA ?_
  refine gI (fun hli => ?_) fun hli => ?_
  ·have hle := cnt_le (R := CoR t s) (m := i)
   refine ats_skip ?_
   (repeat refine ats_seq ?_); refine ats_block ?_
   refine gB ?_
   refine gI (fun hx => ?_) fun hx => ?_
   ·obtain ⟨hne, hO2⟩ := hO.skip h hs (show i < t.length by omega) hx
    refine ats_exit (bq_x ?_)
    refine gB ?_
    refine ⟨(i + 1, o),  ⟨by dsimp only; omega, hO2⟩, by omega, .inl ⟨by simp only [leS, Nat.reduceEqDiff, ↓reduceIte, true_and, and_true]; (rw [cnt_no hne]; omega),  rfl⟩⟩
   ·have hrp := hO.rep (show i < t.length by omega) (by omega)
    have hC := hO.go
    have mi := hm i (by omega)
    have ml := mi.1
    refine ats_skip ?_
    refine gA ?_
    (repeat refine ats_seq ?_); refine ats_loop (fun p : Nat × List Int => ⟨[(1, .int s), (2, .bptr 0 0), (5, .int t.length), (6, .ref 1 []), (7, .int (cnt (CoR t s) i : Nat)), (9, .int i), (10, .int p.1)], [(0, .bx [.l3 t]), (1, .t1 p.2)]⟩) (fun p => p.1 ≤ t.length ∧ Co t s p.2 i p.1 0) (fun p => t.length - p.1) (0, o) ⟨Nat.zero_le _, hC⟩ (by
     refine And.intro ?_ rfl; simp only [leS, Nat.reduceEqDiff, ↓reduceIte, true_and, and_true]
     rfl) (fun p hp => ?_)
    clear hO hC hlo
    obtain ⟨j, o⟩ := p
    obtain ⟨hj, hC⟩ := hp
    dsimp only at hj hC ⊢
    refine gA ?_
    refine gI (fun hlj => ?_) fun hlj => ?_
    ·have mj := mi.2 j (by omega)
     have rl := mj.1
     have hbj := l05Bit_ok s j hb (by omega)
     refine ats_skip ?_
     (repeat refine ats_seq ?_); refine ats_block ?_
     refine gA ?_
     (repeat refine ats_seq ?_); refine ats_loop (fun p : Nat × List Int => ⟨[(1, .int s), (2, .bptr 0 0), (5, .int t.length), (6, .ref 1 []), (7, .int (cnt (CoR t s) i : Nat)), (9, .int i), (10, .int j), (11, .int p.1)], [(0, .bx [.l3 t]), (1, .t1 p.2)]⟩) (fun p => p.1 ≤ t.length ∧ Co t s p.2 i j p.1) (fun p => t.length - p.1) (0, o) ⟨Nat.zero_le _, hC⟩ (by
      refine And.intro ?_ rfl; simp only [leS, Nat.reduceEqDiff, ↓reduceIte, true_and, and_true]
      rfl) (fun p hp => ?_)
     clear hC
     obtain ⟨k, o⟩ := p
     obtain ⟨hk, hC⟩ := hp
     dsimp only at hk hC ⊢
     have hlo := hC.len
     refine gC fun K hK => ?_
     first | refine YR_intro (fun _ => acall_data (hbj) rfl) ?_ | refine YR_intro (acall_data (hbj) rfl) ?_
     simp only [go_sem, seval]
     refine hK _ ?_; clear hK K
     refine gI (fun hlk => ?_) fun hlk => ?_
     ·simp only [Bool.or_eq_true, Bool.or_eq_false_iff, Bool.and_eq_true, Bool.and_eq_false_iff, decide_eq_true_eq, decide_eq_false_iff_not, Bool.not_eq_true', Bool.not_eq_false'] at hlk
      refine ats_skip ?_
      (repeat refine ats_seq ?_); refine ats_block ?_
      refine gB ?_
      refine gI (fun hp => ?_) fun hp => ?_
      ·have hC2 := hC.put h hs (by omega) hrp (by omega) (show k < t.length by omega) hlk.2 hp
       refine gB ?_
       refine gB ?_
       refine ⟨(k + 1, o.set k (cnt (CoR t s) i : Nat)),  ⟨by dsimp only; omega, hC2⟩, by omega, .inl ⟨by simp only [leS, Nat.reduceEqDiff, ↓reduceIte, true_and, and_true]; omega,  rfl⟩⟩
      ·refine ats_skip ?_
       refine gB ?_
       refine ⟨(k + 1, o),  ⟨by dsimp only; omega, hC.pass fun _ ho => absurd ho hp⟩, by omega, .inl ⟨by simp only [leS, Nat.reduceEqDiff, ↓reduceIte, true_and, and_true]; omega,  rfl⟩⟩
     ·simp only [Bool.or_eq_true, Bool.or_eq_false_iff, Bool.and_eq_true, Bool.and_eq_false_iff, decide_eq_true_eq, decide_eq_false_iff_not, Bool.not_eq_true', Bool.not_eq_false'] at hlk
      refine ats_exit (lq_x ?_)
      refine gB ?_
      refine ⟨(j + 1, o),  ⟨by dsimp only; omega, hC.next fun hb2 => by rcases hlk with h1 | h1; exact Int.ofNat_le.1 (Int.not_lt.1 h1); (rw [hb2] at h1; cases h1)⟩, by omega, .inl ⟨by simp only [leS, Nat.reduceEqDiff, ↓reduceIte, true_and, and_true]; omega,  rfl⟩⟩
    ·obtain rfl : j = t.length := by omega
     have hO2 := hC.fin h hs (by omega) hrp
     have ec := cnt_rep hrp
     refine ats_exit (lq_x ?_)
     refine gB ?_
     refine gB ?_
     refine ⟨(i + 1, o),  ⟨by dsimp only; omega, hO2⟩, by omega, .inl ⟨by simp only [leS, Nat.reduceEqDiff, ↓reduceIte, true_and, and_true]; omega,  rfl⟩⟩
  ·obtain rfl : i = t.length := by omega
   have e := hO.fin
   subst e
   refine ats_exit (lq_x ?_)
   refine gA ?_
   exact ats_ret (ownV (is := [1]) rfl ⟨rfl, trivial⟩ rfl (by simp))
end Go.Proofs.YtjcfefgbieeheaaDoor
