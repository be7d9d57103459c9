import Derived.Test.YtjcfefgbieeheaaDoorMm
import Derived.Test.YtjcfefgbieeheaaDoorQd2
set_option linter.unusedSimpArgs false
set_option linter.unusedVariables false
namespace Go.Proofs.YtjcfefgbieeheaaDoor
open Go Go.Aw Go.Pl
theorem classes_ok (t : Cu) (h16 : t.length ≤ 16) (f : Nat) (caps : List AV) (hd : areData caps = true) (R : Nat → Nat → Prop) (hE : EqR t.length R)
  (hf : ∀ i j, i < t.length → j < t.length → PureCall Tryd.prog f (.int i :: .int j :: caps) (.bool (bd (R i j)))) : FreshCall Tryd.prog 41 [.agg [.l3 t], .fn f caps] (.l1 (clsL t.length R)) := by
 refine FreshCall.intro (n := 45) (rs := [.tmp 4]) Tryd.call41 Tryd.func41 rfl rfl rfl (by simp only [List.length_cons, List.length_nil]; omega) (fun cx hcx => ats_of ?_); simp only [argSlots, Nat.zero_add, Nat.reduceAdd]
 refine gA ?_
 refine gB ?_
 refine gA ?_
 (repeat refine ats_seq ?_); refine ats_loop (fun j : Nat => ⟨[(1, .fn f caps), (2, .bptr 0 0), (5, .ref 1 []), (6, .int (cnt R j : Nat)), (13, .int t.length), (14, .int j)], [(0, .bx [.l3 t]), (1, .t1 (rowF j fun j => (num R j : Int)))]⟩) (fun j => j ≤ t.length) (fun j => t.length - j) 0 (Nat.zero_le _) (by refine And.intro ?_ rfl; simp only [leS, Nat.reduceEqDiff, ↓reduceIte, true_and, and_true]; repeat' (first | rfl | with_reducible refine And.intro ?_ ?_ | omega)) (fun j hj => ?_)
 have lj := rowF_length j fun j => (num R j : Int)
 have lc := cnt_le (R := R) (m := j)
 refine gA ?_
 refine gI (fun hlj => ?_) fun hlj => ?_
 ·refine ats_skip ?_
  (repeat refine ats_seq ?_); refine ats_block ?_
  refine gA ?_
  refine gA ?_
  refine gA ?_
  (repeat refine ats_seq ?_); refine ats_loop (fun p : Nat × Int => ⟨[(1, .fn f caps), (2, .bptr 0 0), (5, .ref 1 []), (6, .int (cnt R j : Nat)), (7, .int j), (8, .int p.2), (9, .int p.1), (13, .int t.length), (14, .int j)], [(0, .bx [.l3 t]), (1, .t1 (rowF j fun j => (num R j : Int)))]⟩) (fun p => p.1 ≤ j ∧ ((p.2 = -1 ∧ ∀ a, a < p.1 → ¬ R a j) ∨ ∃ a, a < j ∧ R a j ∧ p.2 = (num R a : Nat))) (fun p => j - p.1) (0, -1) ⟨Nat.zero_le _, .inl ⟨rfl, fun a ha => absurd ha (Nat.not_lt_zero a)⟩⟩ (by
   refine And.intro ?_ rfl; simp only [leS, Nat.reduceEqDiff, ↓reduceIte, true_and, and_true]
   rfl) (fun p hp => ?_)
  obtain ⟨i, o⟩ := p
  obtain ⟨hi, ho⟩ := hp
  dsimp only at hi ho ⊢
  refine gA ?_
  refine gI (fun hlk => ?_) fun hlk => ?_
  ·simp only [Bool.or_eq_true, Bool.or_eq_false_iff, Bool.and_eq_true, Bool.and_eq_false_iff, decide_eq_true_eq, decide_eq_false_iff_not, Bool.not_eq_true', Bool.not_eq_false'] at hlk
   have hcall := hf i j (by omega) (by omega)
   refine ats_skip ?_
   (repeat refine ats_seq ?_); refine ats_block ?_
   refine gC fun K hK => ?_
   refine fcall_data hcall (by simp only [areData, Aw.isData, hd, Bool.and_true]) ?_
   simp only [go_sem, seval]
   refine hK _ ?_; clear hK K
   refine gI (fun hr => ?_) fun hr => ?_
   ·have gi := rowF_get (c := j) (f := fun j => (num R j : Int)) (j := i) (by omega)
    have hb := num_le (R := R) (j := i)
    refine gC fun K hK => ?_
    rw [gi]
    (repeat refine aI (hb := ?_))
    refine hK _ ?_; clear hK K
    refine gB ?_
    refine ⟨(i + 1, (num R i : Int)),  ⟨by dsimp only; omega, .inr ⟨i, by omega, hr, rfl⟩⟩, by omega, .inl ⟨by simp only [leS, Nat.reduceEqDiff, ↓reduceIte, true_and, and_true]; omega,  rfl⟩⟩
   ·refine ats_skip ?_
    refine gB ?_
    refine ⟨(i + 1, o),  ⟨by dsimp only; omega, ho.elim (fun h1 => .inl ⟨h1.1, fun a ha => by dsimp only at ha; by_cases e : a = i; subst e; exact hr; exact h1.2 a (by omega)⟩) .inr⟩, by omega, .inl ⟨by simp only [leS, Nat.reduceEqDiff, ↓reduceIte, true_and, and_true]; omega,  rfl⟩⟩
  ·simp only [Bool.or_eq_true, Bool.or_eq_false_iff, Bool.and_eq_true, Bool.and_eq_false_iff, decide_eq_true_eq, decide_eq_false_iff_not, Bool.not_eq_true', Bool.not_eq_false'] at hlk
   have st := rowF_snoc (n := j) (f := fun j => (num R j : Int))
   refine ats_exit (lq_x ?_)
   refine gA ?_
   by_cases hneg : o < 0
   ·have hno : ∀ a, a < j → ¬ R a j := by
     rcases ho with h1 | ⟨a, _, _, h2⟩
     ·intro a ha
      exact h1.2 a (by omega)
     ·omega
    obtain ⟨n1, n2⟩ := cls_new hno
    have n3 := cnt_rep n1
    refine gI (fun hx => ?_) fun hx => ?_
    ·refine gB ?_
     refine gB ?_
     refine gB ?_
     refine gB ?_
     refine ⟨j + 1, by omega, by omega, .inr ⟨[2], by simp only [killL, List.map_cons, List.map_nil, killA, killAs, qOf, rmT, killH, killT, List.filter_cons, List.filter_nil, List.contains_cons, List.contains_nil, SlotsLe, St.get, slotGet, Nat.reduceEqDiff, Nat.reduceBEq, Bool.or_false, Bool.or_true, Bool.false_and, Bool.not_true, Bool.not_false, Bool.false_eq_true, ↓reduceIte, if_true, if_false, AV.int.injEq, AV.bool.injEq, AV.l1.injEq, AV.l2.injEq, AV.l3.injEq, true_and, and_true]; (simp only [killAs_data hd, true_and]; omega), by simp only [killL, List.map_cons, List.map_nil, killA, killAs, qOf, rmT, killH, killT, List.filter_cons, List.filter_nil, List.contains_cons, List.contains_nil, SlotsLe, St.get, slotGet, Nat.reduceEqDiff, Nat.reduceBEq, Bool.or_false, Bool.or_true, Bool.false_and, Bool.not_true, Bool.not_false, Bool.false_eq_true, ↓reduceIte, if_true, if_false, AV.int.injEq, AV.bool.injEq, AV.l1.injEq, AV.l2.injEq, AV.l3.injEq, true_and, and_true]; rw [← st, n2]⟩⟩
    ·exact (hx hneg).elim
   ·have ha : ∃ a, a < j ∧ R a j ∧ o = (num R a : Nat) := by
     rcases ho with h1 | h1
     ·omega
     ·exact h1
    obtain ⟨a, a1, a2, a3⟩ := ha
    have n1 := cls_old hE a1 (by omega) a2
    have n3 := cls_cnt hE a1 (show j < t.length by omega) a2
    rw [n1] at a3
    subst a3
    refine gI (fun hx => ?_) fun hx => ?_
    ·exact (hneg hx).elim
    ·refine ats_skip ?_
     refine gB ?_
     refine gB ?_
     refine ⟨j + 1, by omega, by omega, .inr ⟨[2], by simp only [killL, List.map_cons, List.map_nil, killA, killAs, qOf, rmT, killH, killT, List.filter_cons, List.filter_nil, List.contains_cons, List.contains_nil, SlotsLe, St.get, slotGet, Nat.reduceEqDiff, Nat.reduceBEq, Bool.or_false, Bool.or_true, Bool.false_and, Bool.not_true, Bool.not_false, Bool.false_eq_true, ↓reduceIte, if_true, if_false, AV.int.injEq, AV.bool.injEq, AV.l1.injEq, AV.l2.injEq, AV.l3.injEq, true_and, and_true]; (simp only [killAs_data hd, true_and]; omega), by simp only [killL, List.map_cons, List.map_nil, killA, killAs, qOf, rmT, killH, killT, List.filter_cons, List.filter_nil, List.contains_cons, List.contains_nil, SlotsLe, St.get, slotGet, Nat.reduceEqDiff, Nat.reduceBEq, Bool.or_false, Bool.or_true, Bool.false_and, Bool.not_true, Bool.not_false, Bool.false_eq_true, ↓reduceIte, if_true, if_false, AV.int.injEq, AV.bool.injEq, AV.l1.injEq, AV.l2.injEq, AV.l3.injEq, true_and, and_true]; rw [← st]⟩⟩
 ·obtain rfl : j = t.length := by omega
  refine ats_exit (lq_x ?_)
  refine gA ?_
  exact ats_ret (ownV (is := [1]) rfl ⟨rfl, trivial⟩ rfl (by simp))
theorem cosets1_ok (t : Cu) (h16 : t.length ≤ 16) (s : Nat) (hs : s < 2 ^ t.length) (i j : Nat) (hi : i < t.length) (hj : j < t.length) : PureCall Tryd.prog 42 [.int i, .int j, .cptr [.int s] 0, .cptr [.l2 (supL t)] 0] (.bool (bd (CoR t s i j))) := by
 have hb := full_in h16 hs
 have hL := labelsIn_ok t.length h16 s hs
 have sg := fun j hj => sup_get (t := t) (i := i) (j := j) hi hj
 have sr := sup_row (t := t) (i := i) hi
 have sl := sup_len (t := t)
 have lI : (lbI t.length s).length = (lbl t.length s).length := lbI_len
 have gl : ∀ a, a < (lbl t.length s).length → ∃ x : Nat, x < t.length ∧ s.testBit x = true ∧ (lbI t.length s).getD a 0 = x ∧ (lbl t.length s).getD a 0 = x := fun a ha => ⟨_, (lbl_get ha).1, (lbl_get ha).2, lbI_get ha, rfl⟩
 have l1 := lbl_len (n := t.length) (s := s)
 obtain ⟨q, eq⟩ : ∃ q, bd (CoR t s i j) = q := ⟨_, rfl⟩
 rw [eq]
 generalize supL t = S at *
 generalize lbI t.length s = L at *
 refine PureCall.intro (n := 28) (rs := [.tmp 6]) Tryd.call42 Tryd.func42 rfl rfl rfl (by simp only [List.length_cons, List.length_nil]; omega) (fun cx hcx => ats_of ?_); simp only [argSlots, Nat.zero_add, Nat.reduceAdd]
 refine gA ?_
 refine gC fun K hK => ?_
 first | refine fcall_fresh rfl (hL) ?_ | refine YR_intro (acall_fresh rfl (hL)) ?_
 simp only [go_sem, seval]
 (repeat refine aI (hb := ?_))
 refine hK _ ?_; clear hK K
 rw [lI]
 (repeat refine ats_seq ?_); refine ats_loop (fun c : Nat => ⟨[(0, .int i), (1, .int j), (3, .cptr [.l2 S] 0), (10, .l1 L), (11, .int (lbl t.length s).length), (12, .int c)], []⟩) (fun c => c ≤ (lbl t.length s).length ∧ ∀ b, b < c → ¬ Oc t i ((lbl t.length s).getD b 0) j) (fun c => (lbl t.length s).length - c) 0 ⟨Nat.zero_le _, fun a h => absurd h (Nat.not_lt_zero a)⟩ (by refine And.intro ?_ rfl; simp only [leS, Nat.reduceEqDiff, ↓reduceIte, true_and, and_true]; rfl) (fun c hc => ?_); obtain ⟨hc, Hc⟩ := hc
 refine gA ?_
 refine gI (fun hlc => ?_) fun hlc => ?_
 ·obtain ⟨x, hx, xb, x1, x2⟩ := gl c (by omega)
  have sxy := sg x hx
  have hu := full_in h16 (suS_lt (t := t) (i := i) (j := x))
  have eb : andI (shrI (suS t i x : Nat) (j : Nat)) 1 = if (suS t i x).testBit j then 1 else 0 := bit_get (by omega) (by omega)
  have hbj := suS_bit (t := t) (i := i) (j := x) (k := j)
  refine ats_skip ?_
  (repeat refine ats_seq ?_); refine ats_block ?_
  refine gC fun K hK => ?_
  rw [x1]
  (repeat refine aI (hb := ?_))
  refine hK _ ?_; clear hK K
  refine gC fun K hK => ?_
  try simp only [Int.toNat_natCast]
  rw [sxy, eb]
  (repeat refine aI (hb := ?_))
  refine hK _ ?_; clear hK K
  cases hbit : (suS t i x).testBit j with
  | true =>
   rw [if_pos rfl]
   (repeat refine ats_seq ?_); refine ats_yes rfl trivial ?_
   refine gA ?_
   refine ats_ret (finB rfl ?_)
   rw [← eq, bd_true ⟨x, hx, xb, (hbj.1 hbit).2⟩]
  | false =>
   rw [if_neg Bool.false_ne_true]
   (repeat refine ats_seq ?_); refine ats_no rfl trivial ?_
   refine ats_skip ?_
   refine gB ?_
   refine ⟨c + 1, ⟨by omega, fun a ha => by rcases Nat.lt_succ_iff_lt_or_eq.1 ha with h | rfl; exact Hc a h; exact (by rw [x2]; intro ho; rw [hbj.2 ⟨hj, ho⟩] at hbit; cases hbit)⟩, by omega, .inl ⟨?_, rfl⟩⟩; simp only [leS, Nat.reduceEqDiff, ↓reduceIte, true_and, and_true]; omega
 ·obtain rfl : c = (lbl t.length s).length := by omega
  refine ats_exit (lq_x ?_)
  refine gA ?_
  refine ats_ret (finB rfl ?_)
  rw [← eq, bd_false]
  rintro ⟨k, hk, hkb, ho⟩
  obtain ⟨c, hc, rfl⟩ := lbl_idx hk hkb
  exact Hc c hc ho
theorem implCoS_ok (t : Cu) (x : Int) : FreshCall Tryd.prog 14 [.agg [.l3 t], .int x] (.tup [optA (coR t x).1, .int (coR t x).2]) := by
 have h0 := setCode_ok t x
 by_cases hc : scA t x = 0
 ·obtain ⟨hr, hx0, hlt, ex⟩ := scA_ok hc
  rw [hc] at h0
  have h := isRing_P hr
  have h16 := h.cube.2.1
  have hI := closed_ok t h x.toNat hlt
  rw [ex] at hI
  by_cases hC : ClosP t x.toNat
  ·have e : coR t x = (some (clsL t.length (CoR t x.toNat)), 0) := by unfold coR; rw [if_pos hc, if_pos (bd_true hC)]
   rw [e]
   rw [clo_eq hC, ex] at hI
   have hS := supports_ok t h.cube
   have hCl := classes_ok t h16 42 [.cptr [.int x] 0, .cptr [.l2 (supL t)] 0] rfl (CoR t x.toNat) (co_eqv h hC) (fun i j hi hj => by have := cosets1_ok t h16 x.toNat hlt i j hi hj; rw [ex] at this; exact this)
   refine FreshCall.intro (n := 24) (rs := [.tmp 4, .tmp 5]) Tryd.call14 Tryd.func14 rfl rfl rfl (by simp only [List.length_cons, List.length_nil]; omega) (fun cx hcx => ats_of ?_); simp only [argSlots, Nat.zero_add, Nat.reduceAdd]
   refine gB ?_
   refine gC fun K hK => ?_
   first | refine fcall_data (h0) rfl ?_ | refine YR_intro (acall_data (h0) rfl) ?_
   simp only [go_sem, seval]
   refine hK _ ?_; clear hK K
   refine gB ?_
   (repeat refine ats_seq ?_); refine ats_no rfl trivial ?_
   refine ats_skip ?_
   (repeat refine ats_seq ?_); refine ats_pick (fix0 hcx) mixed (by kernel_rfl) fun K hK => ?_; simp only [go_sem, seval]
   first | refine fcall_data (hI) rfl ?_ | refine YR_intro (acall_data (hI) rfl) ?_
   simp only [go_sem, seval]
   refine hK _ ?_; clear hK K
   (repeat refine ats_seq ?_); refine ats_no rfl trivial ?_
   refine ats_skip ?_
   refine gC fun K hK => ?_
   first | refine fcall_fresh rfl (hS) ?_ | refine YR_intro (acall_fresh rfl (hS)) ?_
   simp only [go_sem, seval]
   refine hK _ ?_; clear hK K
   refine gC fun K hK => ?_
   refine fcall_own rfl (hCl) rfl ?_; simp only [go_sem, seval]
   refine hK _ ?_; clear hK K
   exact ats_ret (own2 (is := [3]) trivial trivial rfl (by simp))
  ·have e : coR t x = (none, 5) := by unfold coR; rw [if_pos hc, if_neg (fun hb => hC (bd_iff.1 hb))]
   rw [e]
   have hne : ((clo t x.toNat : Nat) : Int) ≠ x := fun e2 => hC (by
    have : clo t x.toNat = x.toNat := by omega
    rw [← this]
    exact h.clo_clos)
   refine FreshCall.intro (n := 24) (rs := [.tmp 4, .tmp 5]) Tryd.call14 Tryd.func14 rfl rfl rfl (by simp only [List.length_cons, List.length_nil]; omega) (fun cx hcx => ats_of ?_); simp only [argSlots, Nat.zero_add, Nat.reduceAdd]
   refine gB ?_
   refine gC fun K hK => ?_
   first | refine fcall_data (h0) rfl ?_ | refine YR_intro (acall_data (h0) rfl) ?_
   simp only [go_sem, seval]
   refine hK _ ?_; clear hK K
   refine gB ?_
   (repeat refine ats_seq ?_); refine ats_no rfl trivial ?_
   refine ats_skip ?_
   (repeat refine ats_seq ?_); refine ats_pick (fix0 hcx) mixed (by kernel_rfl) fun K hK => ?_; simp only [go_sem, seval]
   first | refine fcall_data (hI) rfl ?_ | refine YR_intro (acall_data (hI) rfl) ?_
   simp only [go_sem, seval]
   refine hK _ ?_; clear hK K
   refine gI (fun hx => ?_) fun hx => ?_
   ·refine gB ?_
    exact ats_ret (own2 (is := []) trivial trivial rfl (by simp))
   ·exact (hne (by first | exact hx | simpa using hx)).elim
 ·have e : coR t x = (none, scA t x) := by unfold coR; rw [if_neg hc]
  rw [e]
  generalize scA t x = c at *
  refine FreshCall.intro (n := 24) (rs := [.tmp 4, .tmp 5]) Tryd.call14 Tryd.func14 rfl rfl rfl (by simp only [List.length_cons, List.length_nil]; omega) (fun cx hcx => ats_of ?_); simp only [argSlots, Nat.zero_add, Nat.reduceAdd]
  refine gB ?_
  refine gC fun K hK => ?_
  first | refine fcall_data (h0) rfl ?_ | refine YR_intro (acall_data (h0) rfl) ?_
  simp only [go_sem, seval]
  refine hK _ ?_; clear hK K
  refine gB ?_
  refine gI (fun hx => ?_) fun hx => ?_
  ·refine gB ?_
   exact ats_ret (own2 (is := []) trivial trivial rfl (by simp))
  ·exact (hc (by first | exact hx | simpa using hx)).elim
end Go.Proofs.YtjcfefgbieeheaaDoor
