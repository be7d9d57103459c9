import Derived.Test.YtjpdkdepbkmebaaGreatWx2
import Derived.Test.YtjpdkdepbkmebaaGreatWx4
import Derived.Test.YtjpdkdepbkmebaaGreatPl2
import Derived.Test.YtjpdkdepbkmebaaGreatLib4
import Derived.Test.YtjpdkdepbkmebaaGreatWx3
import Derived.Test.YtjpdkdepbkmebaaGreatLib5
set_option linter.unusedSimpArgs false
set_option linter.unusedVariables false
namespace Go.Proofs.YtjpdkdepbkmebaaGreat
open Go Go.Aw Go.Pl
theorem l01Pow_ok (a : Int) (k : Nat) (ha : InP a) (hk : k ≤ 1000000000) : PureCall Tryz.prog 99 [.int a, .int k] (.int (pw a k)) := by
 refine PureCall.intro (n := 22) (rs := [.tmp 4]) Tryz.call99 Tryz.func99 rfl rfl rfl (by simp only [List.length_cons, List.length_nil]; omega) (fun cx hcx => ats_of ?_); simp only [argSlots, Nat.zero_add, Nat.reduceAdd]
 refine gA ?_
 refine gA ?_
 (repeat refine ats_seq ?_); refine ats_loop (fun x : Int × Int × Nat => ⟨[(0, .int x.2.1), (1, .int x.2.2), (5, .int x.1)], []⟩) (fun x => InP x.1 ∧ InP x.2.1 ∧ x.2.2 ≤ 1000000000 ∧ pwL x.1 x.2.1 x.2.2 = pw a k) (fun x => x.2.2) (1, a, k) ⟨inP_one, ha, hk, rfl⟩ (by
  refine And.intro ?_ rfl; simp only [leS, Nat.reduceEqDiff, ↓reduceIte, true_and, and_true]
  skip) (fun x hx => ?_)
 obtain ⟨out, b, m⟩ := x
 obtain ⟨h1, h2, h4, h3⟩ := hx
 simp only at h1 h2 h3 h4
 have m1 := mulP h1 h2
 have m2 := mulP h2 h2
 have g1 := h1.1
 have g2 := h1.2
 have g3 := h2.1
 have g4 := h2.2
 refine gA ?_
 refine gI (fun hm => ?_) fun hm => ?_
 ·have hm' : m ≠ 0 := by omega
  refine ats_skip ?_
  (repeat refine ats_seq ?_); refine ats_block ?_
  refine gC fun K hK => ?_; (try simp (disch := omega) only [tmP, tdP]); (repeat refine aI (hb := ?_)); refine hK _ ?_; clear hK K
  refine gI (fun hodd => ?_) fun hodd => ?_
  ·refine gC fun K hK => ?_; (try simp (disch := omega) only [tmP, tdP]); (repeat refine aI (hb := ?_)); refine hK _ ?_; clear hK K
   refine gC fun K hK => ?_; (try simp (disch := omega) only [tmP, tdP]); (repeat refine aI (hb := ?_)); refine hK _ ?_; clear hK K
   refine gC fun K hK => ?_; (try simp (disch := omega) only [tmP, tdP]); (repeat refine aI (hb := ?_)); refine hK _ ?_; clear hK K
   refine ⟨(out * b % 55441, b * b % 55441, m / 2), ⟨inP_md _, inP_md _, by show m / 2 ≤ _; omega, ?_⟩, by show m / 2 < m; omega, .inl ⟨?_, rfl⟩⟩
   ·rw [← h3, pwL_step hm', if_pos (by omega)]
   ·simp only [leS, Nat.reduceEqDiff, ↓reduceIte, true_and, and_true]
    omega
  ·refine ats_skip ?_
   refine gC fun K hK => ?_; (try simp (disch := omega) only [tmP, tdP]); (repeat refine aI (hb := ?_)); refine hK _ ?_; clear hK K
   refine gC fun K hK => ?_; (try simp (disch := omega) only [tmP, tdP]); (repeat refine aI (hb := ?_)); refine hK _ ?_; clear hK K
   refine ⟨(out, b * b % 55441, m / 2), ⟨h1, inP_md _, by show m / 2 ≤ _; omega, ?_⟩, by show m / 2 < m; omega, .inl ⟨?_, rfl⟩⟩
   ·rw [← h3, pwL_step hm', if_neg (by omega)]
   ·simp only [leS, Nat.reduceEqDiff, ↓reduceIte, true_and, and_true]
    omega
 ·have hm0 : m = 0 := by omega
  subst hm0
  rw [pwL_zero] at h3
  refine ats_exit (lq_x ?_)
  refine gA ?_
  refine ats_ret (finI rfl ?_)
  exact h3
theorem l01Inv_ok (a : Int) (ha : InP a) : PureCall Tryz.prog 78 [.int a] (.int (inv a)) := by
 have hk : PureCall Tryz.prog 99 [.int a, .int 55439] (.int (inv a)) := l01Pow_ok a 55439 ha (by omega)
 refine PureCall.intro (n := 5) (rs := [.tmp 2]) Tryz.call78 Tryz.func78 rfl rfl rfl (by simp only [List.length_cons, List.length_nil]; omega) (fun cx hcx => ats_of ?_); simp only [argSlots, Nat.zero_add, Nat.reduceAdd]
 refine gA ?_
 refine gC fun K hK => ?_
 first | refine fcall_free rfl rfl (hk) ?_ | refine YR_intro (acall_free rfl rfl (hk)) ?_
 simp only [go_sem, seval]
 refine hK _ ?_; clear hK K
 refine ats_ret (finI rfl ?_)
 rfl
theorem power_ok (a : Int) (k : Nat) (ha : InP a) (hk : k ≤ 1000000000) : PureCall Tryz.prog 103 [.int a, .int k] (.int (pw a k)) := by
 refine PureCall.intro (n := 22) (rs := [.tmp 4]) Tryz.call103 Tryz.func103 rfl rfl rfl (by simp only [List.length_cons, List.length_nil]; omega) (fun cx hcx => ats_of ?_); simp only [argSlots, Nat.zero_add, Nat.reduceAdd]
 refine gA ?_
 refine gA ?_
 (repeat refine ats_seq ?_); refine ats_loop (fun x : Int × Int × Nat => ⟨[(0, .int x.2.1), (1, .int x.2.2), (5, .int x.1)], []⟩) (fun x => InP x.1 ∧ InP x.2.1 ∧ x.2.2 ≤ 1000000000 ∧ pwL x.1 x.2.1 x.2.2 = pw a k) (fun x => x.2.2) (1, a, k) ⟨inP_one, ha, hk, rfl⟩ (by
  refine And.intro ?_ rfl; simp only [leS, Nat.reduceEqDiff, ↓reduceIte, true_and, and_true]
  skip) (fun x hx => ?_)
 obtain ⟨out, b, m⟩ := x
 obtain ⟨h1, h2, h4, h3⟩ := hx
 simp only at h1 h2 h3 h4
 have m1 := mulP h1 h2
 have m2 := mulP h2 h2
 have g1 := h1.1
 have g2 := h1.2
 have g3 := h2.1
 have g4 := h2.2
 refine gA ?_
 refine gI (fun hm => ?_) fun hm => ?_
 ·have hm' : m ≠ 0 := by omega
  refine ats_skip ?_
  (repeat refine ats_seq ?_); refine ats_block ?_
  refine gC fun K hK => ?_; (try simp (disch := omega) only [tmP, tdP]); (repeat refine aI (hb := ?_)); refine hK _ ?_; clear hK K
  refine gI (fun hodd => ?_) fun hodd => ?_
  ·refine gC fun K hK => ?_; (try simp (disch := omega) only [tmP, tdP]); (repeat refine aI (hb := ?_)); refine hK _ ?_; clear hK K
   refine gC fun K hK => ?_; (try simp (disch := omega) only [tmP, tdP]); (repeat refine aI (hb := ?_)); refine hK _ ?_; clear hK K
   refine gC fun K hK => ?_; (try simp (disch := omega) only [tmP, tdP]); (repeat refine aI (hb := ?_)); refine hK _ ?_; clear hK K
   refine ⟨(out * b % 55441, b * b % 55441, m / 2), ⟨inP_md _, inP_md _, by show m / 2 ≤ _; omega, ?_⟩, by show m / 2 < m; omega, .inl ⟨?_, rfl⟩⟩
   ·rw [← h3, pwL_step hm', if_pos (by omega)]
   ·simp only [leS, Nat.reduceEqDiff, ↓reduceIte, true_and, and_true]
    omega
  ·refine ats_skip ?_
   refine gC fun K hK => ?_; (try simp (disch := omega) only [tmP, tdP]); (repeat refine aI (hb := ?_)); refine hK _ ?_; clear hK K
   refine gC fun K hK => ?_; (try simp (disch := omega) only [tmP, tdP]); (repeat refine aI (hb := ?_)); refine hK _ ?_; clear hK K
   refine ⟨(out, b * b % 55441, m / 2), ⟨h1, inP_md _, by show m / 2 ≤ _; omega, ?_⟩, by show m / 2 < m; omega, .inl ⟨?_, rfl⟩⟩
   ·rw [← h3, pwL_step hm', if_neg (by omega)]
   ·simp only [leS, Nat.reduceEqDiff, ↓reduceIte, true_and, and_true]
    omega
 ·have hm0 : m = 0 := by omega
  subst hm0
  rw [pwL_zero] at h3
  refine ats_exit (lq_x ?_)
  refine gA ?_
  refine ats_ret (finI rfl ?_)
  exact h3
theorem divide_ok (x a : Int) (hx : InP x) (ha : InP a) : PureCall Tryz.prog 95 [.int x, .int a] (.int (x * inv a % 55441)) := by
 have hk : PureCall Tryz.prog 103 [.int a, .int 55439] (.int (inv a)) := power_ok a 55439 ha (by omega)
 have m1 := mulP hx (inv_InP ha)
 refine PureCall.intro (n := 10) (rs := [.tmp 4]) Tryz.call95 Tryz.func95 rfl rfl rfl (by simp only [List.length_cons, List.length_nil]; omega) (fun cx hcx => ats_of ?_); simp only [argSlots, Nat.zero_add, Nat.reduceAdd]
 refine gA ?_
 refine gC fun K hK => ?_
 first | refine fcall_free rfl rfl (hk) ?_ | refine YR_intro (acall_free rfl rfl (hk)) ?_
 simp only [go_sem, seval]
 try simp (disch := omega) only [tmP, tdP]
 (repeat refine aI (hb := ?_))
 refine hK _ ?_; clear hK K
 refine ats_ret (finI rfl ?_)
 rfl
end Go.Proofs.YtjpdkdepbkmebaaGreat
namespace Go.Proofs.YtjpdkdepbkmebaaGreat
open Go Go.Aw Go.Pl
theorem l01Number_ok (x : Int) : PureCall Tryz.prog 73 [.int x] (.bool (decide (0 ≤ x) && decide (x ≤ 55440))) := by
 refine PureCall.intro (n := 5) (rs := [.tmp 2]) Tryz.call73 Tryz.func73 rfl rfl rfl (by simp only [List.length_cons, List.length_nil]; omega) (fun cx hcx => ats_of ?_); simp only [argSlots, Nat.zero_add, Nat.reduceAdd]
 refine gA ?_
 refine gC fun K hK => ?_
 first | refine fcall_data (l01In_ok x 0 55440) rfl ?_ | refine YR_intro (acall_data (l01In_ok x 0 55440) rfl) ?_
 simp only [go_sem, seval]
 refine hK _ ?_; clear hK K
 refine ats_ret (finB rfl ?_)
 rfl
theorem l01Numbers_ok (xs : List Int) : PureCall Tryz.prog 46 [.l1 xs] (.bool (numsB xs)) := by
 refine PureCall.intro (n := 16) (rs := [.tmp 2]) Tryz.call46 Tryz.func46 rfl rfl rfl (by simp only [List.length_cons, List.length_nil]; omega) (fun cx hcx => ats_of ?_); simp only [argSlots, Nat.zero_add, Nat.reduceAdd]
 refine gA ?_
 refine ats_know 0 fun h0 => ?_; simp only [St.get, slotGet, Nat.reduceEqDiff, ↓reduceIte, if_true, fact, facts] at h0
 have hlen := h0.1
 refine gA ?_
 (repeat refine ats_seq ?_); refine ats_loop (fun k : Nat => ⟨[(0, .l1 xs), (3, .int k)], []⟩) (fun k => k ≤ xs.length ∧ ∀ b, b < k → InP (xs.getD b 0)) (fun k => xs.length - k) 0 ⟨Nat.zero_le _, fun a h => absurd h (Nat.not_lt_zero a)⟩ (by refine And.intro ?_ rfl; simp only [leS, Nat.reduceEqDiff, ↓reduceIte, true_and, and_true]; rfl) (fun k hk => ?_); obtain ⟨hk, Hk⟩ := hk
 refine gA ?_
 refine gI (fun hlk => ?_) fun hlk => ?_
 ·refine ats_skip ?_
  (repeat refine ats_seq ?_); refine ats_block ?_
  refine gC fun K hK => ?_
  (repeat refine aI (hb := ?_))
  first | refine fcall_data (l01Number_ok _) rfl ?_ | refine YR_intro (acall_data (l01Number_ok _) rfl) ?_
  simp only [go_sem, seval]
  refine hK _ ?_; clear hK K
  refine gI (fun h6 => ?_) fun h6 => ?_
  ·refine gA ?_
   refine ats_ret (finB rfl ?_)
   refine (Bool.eq_false_iff.2 (fun h => ?_)).symm
   have hm := numsB_iff.1 h k (by omega)
   simp only [Bool.not_eq_true', Bool.and_eq_false_iff, decide_eq_false_iff_not] at h6
   exact h6.elim (fun h => h hm.1) (fun h => h hm.2)
  ·simp only [Bool.not_eq_false', Bool.and_eq_true, decide_eq_true_eq] at h6
   refine ats_skip ?_
   refine gB ?_
   refine ⟨k + 1, ⟨by omega, fun a ha => by rcases Nat.lt_succ_iff_lt_or_eq.1 ha with h | rfl; exact Hk a h; exact h6⟩, by omega, .inl ⟨?_, rfl⟩⟩; simp only [leS, Nat.reduceEqDiff, ↓reduceIte, true_and, and_true]; omega
 ·refine ats_exit (lq_x ?_)
  refine gA ?_
  refine ats_ret (finB rfl ?_)
  exact (numsB_iff.2 (fun k' hk' => Hk k' (by omega))).symm
theorem l12Shape_ok (s : List (List Int)) (t : List Int) : PureCall Tryz.prog 32 [.agg [.l2 s, .l1 t]] (.bool (bd (Shape s t))) := by
 refine PureCall.intro (n := 49) (rs := [.tmp 2]) Tryz.call32 Tryz.func32 rfl rfl rfl (by simp only [List.length_cons, List.length_nil]; omega) (fun cx hcx => ats_of ?_); simp only [argSlots, Nat.zero_add, Nat.reduceAdd]
 refine gA ?_
 refine gA ?_
 by_cases h1 : t.length < 1
 ·have h1' : ((t.length : Int) < 1) := by omega
  refine gC fun K hK => ?_
  simp only [h1', decide_true, Bool.not_true, Bool.not_false]
  simp only [go_sem, seval]
  refine YR_intro (v := .bool false) (by first | trivial | (intro h; cases h)) ?_
  simp only [go_sem, seval]
  refine hK _ ?_; clear hK K
  (repeat refine ats_seq ?_); refine ats_yes rfl trivial ?_
  refine gA ?_
  refine ats_ret (finB rfl ?_)
  exact (bd_false (fun h => by have := h.1; omega)).symm
 ·have h1' : ¬ ((t.length : Int) < 1) := by omega
  by_cases h2 : 16 < t.length
  ·have h2' : ((16 : Int) < t.length) := by omega
   refine gC fun K hK => ?_
   simp only [h1', h2', decide_true, decide_false, Bool.not_true, Bool.not_false]
   simp only [go_sem, seval]
   refine YR_intro (v := .bool false) (by first | trivial | (intro h; cases h)) ?_
   simp only [go_sem, seval]
   refine hK _ ?_; clear hK K
   (repeat refine ats_seq ?_); refine ats_yes rfl trivial ?_
   refine gA ?_
   refine ats_ret (finB rfl ?_)
   exact (bd_false (fun h => by have := h.2.1; omega)).symm
  ·have h2' : ¬ ((16 : Int) < t.length) := by omega
   by_cases h3 : s.length = t.length
   ·have h3' : (s.length : Int) = t.length := by omega
    cases hN : numsB t with
    | false =>
     have hk := l01Numbers_ok t
     rw [hN] at hk
     refine gC fun K hK => ?_
     simp only [h1', h2', h3', decide_true, decide_false, Bool.not_true, Bool.not_false]
     simp only [go_sem, seval]
     first | refine YR_intro (fun _ => acall_free rfl rfl (hk)) ?_ | refine YR_intro (acall_free rfl rfl (hk)) ?_
     simp only [go_sem, seval]
     refine hK _ ?_; clear hK K
     (repeat refine ats_seq ?_); refine ats_yes rfl trivial ?_
     refine gA ?_
     refine ats_ret (finB rfl ?_)
     exact (bd_false (fun h => by have := numsB_iff.2 h.2.2.2; rw [hN] at this; cases this)).symm
    | true =>
     have hk := l01Numbers_ok t
     rw [hN] at hk
     refine gC fun K hK => ?_
     simp only [h1', h2', h3', decide_true, decide_false, Bool.not_true, Bool.not_false]
     simp only [go_sem, seval]
     first | refine YR_intro (fun _ => acall_free rfl rfl (hk)) ?_ | refine YR_intro (acall_free rfl rfl (hk)) ?_
     simp only [go_sem, seval]
     refine hK _ ?_; clear hK K
     (repeat refine ats_seq ?_); refine ats_no rfl trivial ?_
     refine ats_skip ?_
     refine gA ?_
     (repeat refine ats_seq ?_); refine ats_loop (fun i : Nat => ⟨[(1, .bptr 0 0), (3, .int t.length), (4, .int i)], [(0, .bx [.l2 s, .l1 t])]⟩) (fun i => i ≤ t.length ∧ ∀ b, b < i → (s.getD b []).length = t.length ∧ numsB (s.getD b []) = true) (fun i => t.length - i) 0 ⟨Nat.zero_le _, fun a h => absurd h (Nat.not_lt_zero a)⟩ (by refine And.intro ?_ rfl; simp only [leS, Nat.reduceEqDiff, ↓reduceIte, true_and, and_true]; rfl) (fun i hi => ?_); obtain ⟨hi, Hi⟩ := hi
     refine gA ?_
     refine gI (fun hli => ?_) fun hli => ?_
     ·refine ats_skip ?_
      (repeat refine ats_seq ?_); refine ats_block ?_
      by_cases h4 : (s.getD i []).length = t.length
      ·have h4' : ((s.getD i []).length : Int) = t.length := by omega
       have hk := l01Numbers_ok (s.getD i [])
       cases hM : numsB (s.getD i []) with
       | false =>
        rw [hM] at hk
        refine gC fun K hK => ?_
        (repeat refine aI (hb := ?_))
        simp only [h4', decide_true, decide_false, Bool.not_true, Bool.not_false]
        simp only [go_sem, seval]
        (repeat refine aI (hb := ?_))
        first | refine YR_intro (fun _ => acall_free rfl rfl (hk)) ?_ | refine YR_intro (acall_free rfl rfl (hk)) ?_
        simp only [go_sem, seval]
        refine hK _ ?_; clear hK K
        (repeat refine ats_seq ?_); refine ats_yes rfl trivial ?_
        refine gA ?_
        refine ats_ret (finB rfl ?_)
        refine (bd_false (fun h => ?_)).symm
        have := numsB_iff.2 (fun j hj => (h.2.2.1.2 i (by omega)).2 j (by omega))
        rw [hM] at this
        cases this
       | true =>
        rw [hM] at hk
        refine gC fun K hK => ?_
        (repeat refine aI (hb := ?_))
        simp only [h4', decide_true, decide_false, Bool.not_true, Bool.not_false]
        simp only [go_sem, seval]
        (repeat refine aI (hb := ?_))
        first | refine YR_intro (fun _ => acall_free rfl rfl (hk)) ?_ | refine YR_intro (acall_free rfl rfl (hk)) ?_
        simp only [go_sem, seval]
        refine hK _ ?_; clear hK K
        (repeat refine ats_seq ?_); refine ats_no rfl trivial ?_
        refine ats_skip ?_
        refine gB ?_
        refine ⟨i + 1, ⟨by omega, fun a ha => by rcases Nat.lt_succ_iff_lt_or_eq.1 ha with h | rfl; exact Hi a h; exact ⟨h4, hM⟩⟩, by omega, .inl ⟨?_, rfl⟩⟩; simp only [leS, Nat.reduceEqDiff, ↓reduceIte, true_and, and_true]; omega
      ·have h4' : ¬ ((s.getD i []).length : Int) = t.length := by omega
       refine gC fun K hK => ?_
       (repeat refine aI (hb := ?_))
       simp only [h4', decide_true, decide_false, Bool.not_true, Bool.not_false]
       simp only [go_sem, seval]
       refine YR_intro (v := .bool false) (by first | trivial | (intro h; cases h)) ?_
       simp only [go_sem, seval]
       refine hK _ ?_; clear hK K
       (repeat refine ats_seq ?_); refine ats_yes rfl trivial ?_
       refine gA ?_
       refine ats_ret (finB rfl ?_)
       exact (bd_false (fun h => h4 (h.2.2.1.2 i (by omega)).1)).symm
     ·refine ats_exit (lq_x ?_)
      refine gA ?_
      refine ats_ret (finB rfl ?_)
      exact (bd_true ⟨by omega, by omega, ⟨h3, fun i hi => ⟨(Hi i (by omega)).1, fun j hj => numsB_iff.1 (Hi i (by omega)).2 j (by rw [(Hi i (by omega)).1]; exact hj)⟩⟩, numsB_iff.1 hN⟩).symm
   ·have h3' : ¬ (s.length : Int) = t.length := by omega
    refine gC fun K hK => ?_
    simp only [h1', h2', h3', decide_true, decide_false, Bool.not_true, Bool.not_false]
    simp only [go_sem, seval]
    refine YR_intro (v := .bool false) (by first | trivial | (intro h; cases h)) ?_
    simp only [go_sem, seval]
    refine hK _ ?_; clear hK K
    (repeat refine ats_seq ?_); refine ats_yes rfl trivial ?_
    refine gA ?_
    refine ats_ret (finB rfl ?_)
    exact (bd_false (fun h => h3 h.2.2.1.1)).symm
end Go.Proofs.YtjpdkdepbkmebaaGreat
namespace Go.Proofs.YtjpdkdepbkmebaaGreat
open Go Go.Aw Go.Pl
theorem l12Times_ok (a b : List (List Int)) (n : Nat) (h16 : n ≤ 16) (ha : MatP n a) (hb : MatP n b) : FreshCall Tryz.prog 49 [.l2 a, .l2 b] (.l2 (mulM a b n)) := by
 have la := ha.1
 have lb := hb.1
 refine FreshCall.intro (n := 59) (rs := [.tmp 4]) Tryz.call49 Tryz.func49 rfl rfl rfl (by simp only [List.length_cons, List.length_nil]; omega) (fun cx hcx => ats_of ?_); simp only [argSlots, Nat.zero_add, Nat.reduceAdd]
 refine gA ?_
 refine gA ?_
 refine gA ?_
 (repeat refine ats_seq ?_); refine ats_loop (fun i : Nat => ⟨[(0, .l2 a), (1, .l2 b), (5, .ref 0 []), (6, .int i)], [(0, .t2 ((List.range i).map fun i => rowF n fun j => sumTo (pG a b i j) n % 55441))]⟩) (fun i => i ≤ n) (fun i => n - i) 0 (Nat.zero_le _) (by refine And.intro ?_ rfl; simp only [leS, Nat.reduceEqDiff, ↓reduceIte, true_and, and_true]; repeat' (first | rfl | with_reducible refine And.intro ?_ ?_ | omega)) (fun i hi => ?_)
 have hl : ((List.range i).map fun i => rowF n fun j => sumTo (pG a b i j) n % 55441).length = i := by simp
 refine gA ?_
 refine gI (fun hli => ?_) fun hli => ?_
 ·have rai := ha.row (show i < n by omega)
  refine ats_skip ?_
  (repeat refine ats_seq ?_); refine ats_block ?_
  refine gA ?_
  refine gA ?_
  (repeat refine ats_seq ?_); refine ats_loop (fun j : Nat => ⟨[(0, .l2 a), (1, .l2 b), (5, .ref 0 []), (6, .int i), (7, .ref 1 []), (8, .int j)], [(0, .t2 ((List.range i).map fun i => rowF n fun j => sumTo (pG a b i j) n % 55441)), (1, .t1 ((List.range j).map fun j => sumTo (pG a b i j) n % 55441))]⟩) (fun j => j ≤ n) (fun j => n - j) 0 (Nat.zero_le _) (by refine And.intro ?_ rfl; simp only [leS, Nat.reduceEqDiff, ↓reduceIte, true_and, and_true]; repeat' (first | rfl | with_reducible refine And.intro ?_ ?_ | omega)) (fun j hj => ?_)
  have hl2 : ((List.range j).map fun j => sumTo (pG a b i j) n % 55441).length = j := by simp
  refine gA ?_
  refine gI (fun hlj => ?_) fun hlj => ?_
  ·have bd := pG_bd ha hb (show i < n by omega) (show j < n by omega)
   refine ats_skip ?_
   (repeat refine ats_seq ?_); refine ats_block ?_
   refine gA ?_
   refine gA ?_
   (repeat refine ats_seq ?_); refine ats_loop (fun k : Nat => ⟨[(0, .l2 a), (1, .l2 b), (5, .ref 0 []), (6, .int i), (7, .ref 1 []), (8, .int j), (9, .int (sumTo (fun k => pG a b i j k % 55441) k)), (10, .int k)], [(0, .t2 ((List.range i).map fun i => rowF n fun j => sumTo (pG a b i j) n % 55441)), (1, .t1 ((List.range j).map fun j => sumTo (pG a b i j) n % 55441))]⟩) (fun k => k ≤ n) (fun k => n - k) 0 (Nat.zero_le _) (by refine And.intro ?_ rfl; simp only [leS, Nat.reduceEqDiff, ↓reduceIte, true_and, and_true]; repeat' (first | rfl | with_reducible refine And.intro ?_ ?_ | omega)) (fun k hk => ?_)
   have sL := sumTo_le (f := fun k => pG a b i j k % 55441) (B := 55440) (n := k) (fun x hx => by have := bd x (by omega); omega)
   refine gA ?_
   refine gI (fun hlk => ?_) fun hlk => ?_
   ·have rbk := hb.row (show k < n by omega)
    have cL := bd k (by omega)
    simp only [pG, e2] at cL
    refine ats_skip ?_
    (repeat refine ats_seq ?_); refine ats_block ?_
    (repeat refine ats_seq ?_); refine ats_pick (fix0 hcx) mixed (by kernel_rfl) fun K hK => ?_; simp only [go_sem, seval]; (try simp (disch := omega) only [tmP, tdP]); (repeat refine aI (hb := ?_)); refine hK _ ?_; clear hK K
    refine gB ?_
    refine ⟨k + 1,  by omega, by omega, .inl ⟨by simp only [leS, Nat.reduceEqDiff, ↓reduceIte, true_and, and_true]; exact ⟨rfl, by omega⟩,  rfl⟩⟩
   ·obtain rfl : k = n := by omega
    refine ats_exit (lq_x ?_)
    refine gC fun K hK => ?_
    try simp (disch := omega) only [tmP, tdP]
    (repeat refine And.intro (by (first | omega | (rw [hl2]; omega))) ?_)
    refine hK _ ?_; clear hK K
    refine gB ?_
    refine ⟨j + 1, by omega, by omega, .inr ⟨[2], by simp only [killL, List.map_cons, List.map_nil, killA, killAs, qOf, rmT, killH, killT, List.filter_cons, List.filter_nil, List.contains_cons, List.contains_nil, SlotsLe, St.get, slotGet, Nat.reduceEqDiff, Nat.reduceBEq, Bool.or_false, Bool.or_true, Bool.false_and, Bool.not_true, Bool.not_false, Bool.false_eq_true, ↓reduceIte, if_true, if_false, AV.int.injEq, AV.bool.injEq, AV.l1.injEq, AV.l2.injEq, AV.l3.injEq, true_and, and_true]; omega, by simp only [killL, List.map_cons, List.map_nil, killA, killAs, qOf, rmT, killH, killT, List.filter_cons, List.filter_nil, List.contains_cons, List.contains_nil, SlotsLe, St.get, slotGet, Nat.reduceEqDiff, Nat.reduceBEq, Bool.or_false, Bool.or_true, Bool.false_and, Bool.not_true, Bool.not_false, Bool.false_eq_true, ↓reduceIte, if_true, if_false, AV.int.injEq, AV.bool.injEq, AV.l1.injEq, AV.l2.injEq, AV.l3.injEq, true_and, and_true]; simp only [List.range_succ, List.map_append, List.map_cons, List.map_nil, sum_md]⟩⟩
  ·obtain rfl : j = n := by omega
   refine ats_exit (lq_x ?_)
   refine gC fun K hK => ?_
   (repeat refine And.intro (by (first | omega | (rw [hl]; omega))) ?_)
   refine hK _ ?_; clear hK K
   refine gB ?_
   refine ⟨i + 1,  by omega, by omega, .inl ⟨by simp only [leS, Nat.reduceEqDiff, ↓reduceIte, true_and, and_true]; omega,  by simp only [List.range_succ (n := i), List.map_append, List.map_cons, List.map_nil]; rfl⟩⟩
 ·obtain rfl : i = n := by omega
  refine ats_exit (lq_x ?_)
  refine gA ?_
  exact ats_ret (ownV (is := [0]) rfl ⟨rfl, trivial⟩ rfl (by simp))
theorem l12Whole_ok (s : List (List Int)) (t : List Int) (hs : Shape s t) : PureCall Tryz.prog 47 [.agg [.l2 s, .l1 t]] (.int (wholeD s t.length)) := by
 have h16 := hs.2.1
 have h1 := hs.1
 have hm := hs.2.2.1
 have ls := hm.1
 have r0 := hm.row (show 0 < t.length by omega)
 have bd : ∀ k, k < t.length → 0 ≤ wG s k ∧ wG s k ≤ 3073593600 := fun k hk => mulP (hm.inP (by omega) hk) (hm.inP (by omega) hk)
 refine PureCall.intro (n := 32) (rs := [.tmp 2]) Tryz.call47 Tryz.func47 rfl rfl rfl (by simp only [List.length_cons, List.length_nil]; omega) (fun cx hcx => ats_of ?_); simp only [argSlots, Nat.zero_add, Nat.reduceAdd]
 refine gA ?_
 refine gA ?_
 refine gA ?_
 (repeat refine ats_seq ?_); refine ats_loop (fun k : Nat => ⟨[(1, .bptr 0 0), (3, .int (sumTo (fun k => wG s k % 55441) k)), (4, .int k)], [(0, .bx [.l2 s, .l1 t])]⟩) (fun k => k ≤ t.length) (fun k => t.length - k) 0 (Nat.zero_le _) (by refine And.intro ?_ rfl; simp only [leS, Nat.reduceEqDiff, ↓reduceIte, true_and, and_true]; repeat' (first | rfl | with_reducible refine And.intro ?_ ?_ | omega)) (fun k hk => ?_)
 have sL := sumTo_le (f := fun k => wG s k % 55441) (B := 55440) (n := k) (fun x hx => by have := bd x (by omega); omega)
 refine gA ?_
 refine gI (fun hlk => ?_) fun hlk => ?_
 ·have cL := bd k (by omega)
  simp only [wG, e2] at cL
  refine ats_skip ?_
  (repeat refine ats_seq ?_); refine ats_block ?_
  (repeat refine ats_seq ?_); refine ats_pick (fix0 hcx) mixed (by kernel_rfl) fun K hK => ?_; simp only [go_sem, seval]; (try simp (disch := omega) only [tmP, tdP]); (repeat refine aI (hb := ?_)); refine hK _ ?_; clear hK K
  refine gB ?_
  refine ⟨k + 1,  by omega, by omega, .inl ⟨by simp only [leS, Nat.reduceEqDiff, ↓reduceIte, true_and, and_true]; exact ⟨rfl, by omega⟩,  rfl⟩⟩
 ·obtain rfl : k = t.length := by omega
  refine ats_exit (lq_x ?_)
  refine gC fun K hK => ?_; (try simp (disch := omega) only [tmP, tdP]); (repeat refine aI (hb := ?_)); refine hK _ ?_; clear hK K
  refine ats_ret (finI rfl ?_)
  unfold wholeD
  rw [sum_md]
theorem l12Gauss_ok (s : List (List Int)) (t v : List Int) (hs : Shape s t) (hv : v.length = t.length) (hP : ∀ i, i < t.length → InP (v.getD i 0)) : PureCall Tryz.prog 50 [.agg [.l2 s, .l1 t], .l1 v] (.int (gaussD s v t.length)) := by
 have h16 := hs.2.1
 have h1 := hs.1
 have hm := hs.2.2.1
 have ls := hm.1
 have r0 := hm.row (show 0 < t.length by omega)
 have bw : ∀ k, k < t.length → 0 ≤ wG s k ∧ wG s k ≤ 3073593600 := fun k hk => mulP (hm.inP (by omega) hk) (hm.inP (by omega) hk)
 have bd : ∀ k, k < t.length → 0 ≤ gG s v k ∧ gG s v k ≤ 3073593600 := fun k hk => mulP (inP_md _) (hP k hk)
 refine PureCall.intro (n := 39) (rs := [.tmp 4]) Tryz.call50 Tryz.func50 rfl rfl rfl (by simp only [List.length_cons, List.length_nil]; omega) (fun cx hcx => ats_of ?_); simp only [argSlots, Nat.zero_add, Nat.reduceAdd]
 refine gA ?_
 refine gA ?_
 refine gA ?_
 (repeat refine ats_seq ?_); refine ats_loop (fun k : Nat => ⟨[(1, .l1 v), (2, .bptr 0 0), (5, .int (sumTo (fun k => gG s v k % 55441) k)), (6, .int k)], [(0, .bx [.l2 s, .l1 t])]⟩) (fun k => k ≤ t.length) (fun k => t.length - k) 0 (Nat.zero_le _) (by refine And.intro ?_ rfl; simp only [leS, Nat.reduceEqDiff, ↓reduceIte, true_and, and_true]; repeat' (first | rfl | with_reducible refine And.intro ?_ ?_ | omega)) (fun k hk => ?_)
 have sL := sumTo_le (f := fun k => gG s v k % 55441) (B := 55440) (n := k) (fun x hx => by have := bd x (by omega); omega)
 refine gA ?_
 refine gI (fun hlk => ?_) fun hlk => ?_
 ·have cL := bd k (by omega)
  have cW := bw k (by omega)
  simp only [gG, wG, e2] at cL cW
  refine ats_skip ?_
  (repeat refine ats_seq ?_); refine ats_block ?_
  (repeat refine ats_seq ?_); refine ats_pick (fix0 hcx) mixed (by kernel_rfl) fun K hK => ?_; simp only [go_sem, seval]; (try simp (disch := omega) only [tmP, tdP]); (repeat refine aI (hb := ?_)); refine hK _ ?_; clear hK K
  refine gB ?_
  refine ⟨k + 1,  by omega, by omega, .inl ⟨by simp only [leS, Nat.reduceEqDiff, ↓reduceIte, true_and, and_true]; exact ⟨rfl, by omega⟩,  rfl⟩⟩
 ·obtain rfl : k = t.length := by omega
  refine ats_exit (lq_x ?_)
  refine gC fun K hK => ?_; (try simp (disch := omega) only [tmP, tdP]); (repeat refine aI (hb := ?_)); refine hK _ ?_; clear hK K
  refine ats_ret (finI rfl ?_)
  unfold gaussD
  rw [sum_md]
theorem l01Dot_ok (x y : List Int) (n : Nat) (h16 : n ≤ 64) (hx : x.length = n) (hy : y.length = n) (px : ∀ i, i < n → InP (x.getD i 0)) (py : ∀ i, i < n → InP (y.getD i 0)) : PureCall Tryz.prog 80 [.l1 x, .l1 y] (.int (dotP x y n)) := by
 have bd : ∀ k, k < n → 0 ≤ dotG x y k ∧ dotG x y k ≤ 3073593600 := fun k hk => mulP (px k hk) (py k hk)
 refine PureCall.intro (n := 26) (rs := [.tmp 4]) Tryz.call80 Tryz.func80 rfl rfl rfl (by simp only [List.length_cons, List.length_nil]; omega) (fun cx hcx => ats_of ?_); simp only [argSlots, Nat.zero_add, Nat.reduceAdd]
 refine gA ?_
 refine gA ?_
 refine gA ?_
 (repeat refine ats_seq ?_); refine ats_loop (fun k : Nat => ⟨[(0, .l1 x), (1, .l1 y), (5, .int (sumTo (dotG x y) k % 55441)), (6, .int k)], []⟩) (fun k => k ≤ n) (fun k => n - k) 0 (Nat.zero_le _) (by refine And.intro ?_ rfl; simp only [leS, Nat.reduceEqDiff, ↓reduceIte, true_and, and_true]; repeat' (first | rfl | with_reducible refine And.intro ?_ ?_ | omega)) (fun k hk => ?_)
 refine gA ?_
 refine gI (fun hlk => ?_) fun hlk => ?_
 ·have cL := bd k (by omega)
  have e := sum_it (f := dotG x y) (n := k)
  simp only [dotG] at cL e
  refine ats_skip ?_
  (repeat refine ats_seq ?_); refine ats_block ?_
  (repeat refine ats_seq ?_); refine ats_pick (fix0 hcx) mixed (by kernel_rfl) fun K hK => ?_; simp only [go_sem, seval]; (try simp (disch := omega) only [tmP, tdP]); (repeat refine aI (hb := ?_)); refine hK _ ?_; clear hK K
  refine gB ?_
  refine ⟨k + 1,  by omega, by omega, .inl ⟨by simp only [leS, Nat.reduceEqDiff, ↓reduceIte, true_and, and_true]; exact ⟨e, by omega⟩,  rfl⟩⟩
 ·obtain rfl : k = n := by omega
  refine ats_exit (lq_x ?_)
  refine gC fun K hK => ?_; (try simp (disch := omega) only [tmP, tdP]); (repeat refine aI (hb := ?_)); refine hK _ ?_; clear hK K
  refine ats_ret (finI rfl ?_)
  rfl
theorem l01Index_ok (xs : List Int) (x : Int) : PureCall Tryz.prog 74 [.l1 xs, .int x] (.int (fidx (fun y => decide (y = x)) xs)) := by
 refine PureCall.intro (n := 19) (rs := [.tmp 4]) Tryz.call74 Tryz.func74 rfl rfl rfl (by simp only [List.length_cons, List.length_nil]; omega) (fun cx hcx => ats_of ?_); simp only [argSlots, Nat.zero_add, Nat.reduceAdd]
 refine gA ?_
 refine ats_know 0 fun h0 => ?_; simp only [St.get, slotGet, Nat.reduceEqDiff, ↓reduceIte, if_true, fact, facts] at h0
 have hlen := h0.1
 refine gA ?_
 (repeat refine ats_seq ?_); refine ats_loop (fun k : Nat => ⟨[(0, .l1 xs), (1, .int x), (5, .int k)], []⟩) (fun k => k ≤ xs.length ∧ ∀ b, b < k → decide (xs.getD b 0 = x) = false) (fun k => xs.length - k) 0 ⟨Nat.zero_le _, fun a h => absurd h (Nat.not_lt_zero a)⟩ (by refine And.intro ?_ rfl; simp only [leS, Nat.reduceEqDiff, ↓reduceIte, true_and, and_true]; rfl) (fun k hk => ?_); obtain ⟨hk, Hk⟩ := hk
 refine gA ?_
 refine gI (fun hlk => ?_) fun hlk => ?_
 ·refine ats_skip ?_
  (repeat refine ats_seq ?_); refine ats_block ?_
  refine gB ?_
  refine gI (fun h6 => ?_) fun h6 => ?_
  ·refine gA ?_
   refine ats_ret (finI rfl ?_)
   exact (fidx_some (d := 0) (show k < xs.length by omega) Hk (decide_eq_true h6)).symm
  ·refine ats_skip ?_
   refine gB ?_
   refine ⟨k + 1, ⟨by omega, fun a ha => by rcases Nat.lt_succ_iff_lt_or_eq.1 ha with h | rfl; exact Hk a h; exact decide_eq_false h6⟩, by omega, .inl ⟨?_, rfl⟩⟩; simp only [leS, Nat.reduceEqDiff, ↓reduceIte, true_and, and_true]; omega
 ·refine ats_exit (lq_x ?_)
  refine gA ?_
  refine ats_ret (finI rfl ?_)
  exact (fidx_none (d := 0) (fun i hi => Hk i (by omega))).symm
theorem l01Has_ok (xs : List Int) (x : Int) : PureCall Tryz.prog 75 [.l1 xs, .int x] (.bool (xs.any fun y => decide (y = x))) := by
 refine PureCall.intro (n := 9) (rs := [.tmp 4]) Tryz.call75 Tryz.func75 rfl rfl rfl (by simp only [List.length_cons, List.length_nil]; omega) (fun cx hcx => ats_of ?_); simp only [argSlots, Nat.zero_add, Nat.reduceAdd]
 refine gA ?_
 refine gC fun K hK => ?_
 first | refine fcall_free rfl rfl (l01Index_ok xs x) ?_ | refine YR_intro (acall_free rfl rfl (l01Index_ok xs x)) ?_
 simp only [go_sem, seval]
 refine hK _ ?_; clear hK K
 refine ats_ret (finB rfl ?_)
 exact fidx_any
end Go.Proofs.YtjpdkdepbkmebaaGreat
namespace Go.Proofs.YtjpdkdepbkmebaaGreat
open Go Go.Aw Go.Pl
theorem l12Conjugation_ok (s : List (List Int)) (t : List Int) (hs : Shape s t) (hw : wholeD s t.length ≠ 0) : PureCall Tryz.prog 48 [.agg [.l2 s, .l1 t]] (optA (cj s t)) := by
 have h16 := hs.2.1
 have h1 := hs.1
 have hm := hs.2.2.1
 have ls := hm.1
 have hT : PureCall Tryz.prog 49 [.l2 s, .l2 s] (.l2 (sqD s t.length)) := (l12Times_ok s s t.length h16 hm hm).pure
 have hW := l12Whole_ok s t hs
 have lq : (sqD s t.length).length = t.length := (mulM_MatP s s t.length).1
 refine PureCall.intro (n := 79) (rs := [.tmp 2]) Tryz.call48 Tryz.func48 rfl rfl rfl (by simp only [List.length_cons, List.length_nil]; omega) (fun cx hcx => ats_of ?_); simp only [argSlots, Nat.zero_add, Nat.reduceAdd]
 refine gA ?_
 (repeat refine ats_seq ?_); refine ats_pickP [0, 1, 2, 3, 4, 5, 6, 8, 9, 7, 10] (fix0 hcx) mixed (by kernel_rfl) fun K hK => ?_; simp only [pickL, pickO, List.map_cons, List.map_nil, List.getElem?_toArray, List.getElem?_cons_zero, List.getElem?_cons_succ, Option.getD_some]; simp only [go_sem, seval]
 first | refine fcall_data (hT) rfl ?_ | refine YR_intro (acall_data (hT) rfl) ?_
 simp only [go_sem, seval]
 first | refine fcall_data (hW) rfl ?_ | refine YR_intro (acall_data (hW) rfl) ?_
 simp only [go_sem, seval]
 refine hK _ ?_; clear hK K
 refine gA ?_
 (repeat refine ats_seq ?_); refine ats_loop (fun i : Nat => ⟨[(1, .bptr 0 0), (3, .l2 (sqD s t.length)), (4, .int (wholeD s t.length)), (5, .ref 1 []), (6, .int i)], [(0, .bx [.l2 s, .l1 t]), (1, .t1 ((List.range i).map (cI s t.length)))]⟩) (fun i => i ≤ t.length ∧ ∀ b, b < i → Sp s t b) (fun i => t.length - i) 0 ⟨Nat.zero_le _, fun a h => absurd h (Nat.not_lt_zero a)⟩ (by refine And.intro ?_ rfl; simp only [leS, Nat.reduceEqDiff, ↓reduceIte, true_and, and_true]; rfl) (fun i hi => ?_); obtain ⟨hi, Hi⟩ := hi
 have hl : ((List.range i).map (cI s t.length)).length = i := by simp
 refine gA ?_
 refine gI (fun hli => ?_) fun hli => ?_
 ·have rq := sq_row (s := s) (show i < t.length by omega)
  have al := aI_lt (s := s) (show i < t.length by omega)
  have hix : PureCall Tryz.prog 74 [.l1 ((sqD s t.length).getD i []), .int (wholeD s t.length)] (.int (aI s t.length i)) := l01Index_ok _ _
  refine ats_skip ?_
  (repeat refine ats_seq ?_); refine ats_block ?_
  refine gC fun K hK => ?_
  (repeat refine aI (hb := ?_))
  first | refine fcall_data (hix) rfl ?_ | refine YR_intro (acall_data (hix) rfl) ?_
  simp only [go_sem, seval]
  refine hK _ ?_; clear hK K
  refine gA ?_
  (repeat refine ats_seq ?_); refine ats_loop (fun k : Nat => ⟨[(1, .bptr 0 0), (3, .l2 (sqD s t.length)), (4, .int (wholeD s t.length)), (5, .ref 1 []), (6, .int i), (7, .int (aI s t.length i)), (8, .int k)], [(0, .bx [.l2 s, .l1 t]), (1, .t1 ((List.range i).map (cI s t.length)))]⟩) (fun k => k ≤ t.length ∧ ∀ b, b < k → ((b : Int) ≠ aI s t.length i → e2 (sqD s t.length) i b = 0)) (fun k => t.length - k) 0 ⟨Nat.zero_le _, fun a h => absurd h (Nat.not_lt_zero a)⟩ (by refine And.intro ?_ rfl; simp only [leS, Nat.reduceEqDiff, ↓reduceIte, true_and, and_true]; rfl) (fun k hk => ?_); obtain ⟨hk, Hk⟩ := hk
  refine gA ?_
  refine gI (fun hlk => ?_) fun hlk => ?_
  ·refine ats_skip ?_
   (repeat refine ats_seq ?_); refine ats_block ?_
   refine gB ?_
   refine gI (fun h2 => ?_) fun h2 => ?_
   ·simp only [Bool.and_eq_true, Bool.not_eq_true', decide_eq_false_iff_not] at h2
    have e : cj s t = none := cj_none_sp (i := i) (by omega) (fun h => by
     have hg := h.1
     have h5 := good_aI (by omega) hw hg
     have h6 := hg.1
     exact h2.2 (hg.2.2 k (by omega) (by omega)))
    refine gA ?_
    exact ats_ret (finV rfl ⟨rfl, trivial⟩ (by rw [e]; rfl))
   ·simp only [Bool.and_eq_false_iff, Bool.not_eq_false', decide_eq_true_eq] at h2
    refine ats_skip ?_
    refine gB ?_
    refine ⟨k + 1, ⟨by omega, fun a ha => by rcases Nat.lt_succ_iff_lt_or_eq.1 ha with h | rfl; exact Hk a h; exact (fun hne => h2.resolve_left hne)⟩, by omega, .inl ⟨?_, rfl⟩⟩; simp only [leS, Nat.reduceEqDiff, ↓reduceIte, true_and, and_true]; omega
  ·have hz : ∀ k, k < t.length → (k : Int) ≠ aI s t.length i → e2 (sqD s t.length) i k = 0 := fun k hk => Hk k (by omega)
   have hH := l01Has_ok ((List.range i).map (cI s t.length)) (aI s t.length i)
   refine ats_exit (lq_x ?_)
   (repeat refine ats_seq ?_); refine ats_pick (fix0 hcx) mixed (by kernel_rfl) fun K hK => ?_; simp only [go_sem, seval]
   (repeat refine aI (hb := ?_))
   first | refine YR_intro (fun _ => acall_free rfl rfl (hH)) ?_ | refine YR_intro (acall_free rfl rfl (hH)) ?_
   simp only [go_sem, seval]
   (repeat refine aI (hb := ?_))
   refine hK _ ?_; clear hK K
   refine gI (fun h3 => ?_) fun h3 => ?_
   ·simp only [Bool.or_eq_true, Bool.not_eq_true', decide_eq_false_iff_not, decide_eq_true_eq] at h3
    have e : cj s t = none := cj_none_sp (i := i) (by omega) (fun h => by
     have hg := h.1
     have h5 := good_aI (by omega) hw hg
     have h6 := hg.1
     rcases h3 with (h3 | h3) | h3
     ·omega
     ·obtain ⟨j, hj, e⟩ := any_cI.1 h3
      exact h.2.1 j hj (by rw [e, h5])
     ·exact h3 (by rw [h5]; exact h.2.2))
    refine gA ?_
    exact ats_ret (finV rfl ⟨rfl, trivial⟩ (by rw [e]; rfl))
   ·simp only [Bool.or_eq_false_iff, Bool.not_eq_false', decide_eq_false_iff_not, decide_eq_true_eq] at h3
    have hg := good_of (by omega) hw (by omega) hz
    have hd : ∀ j, j < i → cI s t.length j ≠ cI s t.length i := fun j hj e => by
     have := any_cI.2 ⟨j, hj, e.trans hg.1⟩
     rw [h3.1.2] at this
     cases this
    have hsp : Sp s t i := ⟨hg.2, hd, by rw [hg.1]; exact h3.2⟩
    refine ats_skip ?_
    refine gC fun K hK => ?_
    (repeat refine And.intro (by (first | omega | (rw [hl]; omega))) ?_)
    refine hK _ ?_; clear hK K
    refine gB ?_
    refine ⟨i + 1, ⟨by omega, fun a ha => by rcases Nat.lt_succ_iff_lt_or_eq.1 ha with h | rfl; exact Hi a h; exact hsp⟩, by omega, .inr ⟨[2], by simp only [killL, List.map_cons, List.map_nil, killA, killAs, qOf, rmT, killH, killT, List.filter_cons, List.filter_nil, List.contains_cons, List.contains_nil, SlotsLe, St.get, slotGet, Nat.reduceEqDiff, Nat.reduceBEq, Bool.or_false, Bool.or_true, Bool.false_and, Bool.not_true, Bool.not_false, Bool.false_eq_true, ↓reduceIte, if_true, if_false, AV.int.injEq, AV.bool.injEq, AV.l1.injEq, AV.l2.injEq, AV.l3.injEq, true_and, and_true]; omega, by simp only [killL, List.map_cons, List.map_nil, killA, killAs, qOf, rmT, killH, killT, List.filter_cons, List.filter_nil, List.contains_cons, List.contains_nil, SlotsLe, St.get, slotGet, Nat.reduceEqDiff, Nat.reduceBEq, Bool.or_false, Bool.or_true, Bool.false_and, Bool.not_true, Bool.not_false, Bool.false_eq_true, ↓reduceIte, if_true, if_false, AV.int.injEq, AV.bool.injEq, AV.l1.injEq, AV.l2.injEq, AV.l3.injEq, true_and, and_true]; simp only [List.range_succ, List.map_append, List.map_cons, List.map_nil, hg.1]⟩⟩
 ·obtain rfl : i = t.length := by omega
  have hsp : ∀ i, i < t.length → Sp s t i := fun i hi => Hi i (by omega)
  have h0 : ((List.range t.length).map (cI s t.length)).getD 0 0 = cI s t.length 0 := cL_get (by omega)
  clear Hi
  refine ats_exit (lq_x ?_)
  refine gC fun K hK => ?_
  (repeat refine And.intro (by (first | omega | (rw [hl]; omega))) ?_)
  simp only [h0]
  refine hK _ ?_; clear hK K
  refine gI (fun h4 => ?_) fun h4 => ?_
  ·have e : cj s t = none := cj_none_0 (by omega) h4
   refine gA ?_
   exact ats_ret (finV rfl ⟨rfl, trivial⟩ (by rw [e]; rfl))
  ·have e : cj s t = some (cL s t.length) := cj_some hsp (fun _ => h4)
   refine ats_skip ?_
   refine gA ?_
   exact ats_ret (finV rfl ⟨rfl, trivial⟩ (by rw [e]; rfl))
theorem l06Empty_ok (n : Nat) (h16 : n ≤ 16) : FreshCall Tryz.prog 79 [.int n] (.l3 (List.replicate n (List.replicate n (List.replicate n 0)))) := by
 refine FreshCall.intro (n := 29) (rs := [.tmp 2]) Tryz.call79 Tryz.func79 rfl rfl rfl (by simp only [List.length_cons, List.length_nil]; omega) (fun cx hcx => ats_of ?_); simp only [argSlots, Nat.zero_add, Nat.reduceAdd]
 refine gA ?_
 refine gA ?_
 refine gA ?_
 (repeat refine ats_seq ?_); refine ats_loop (fun i : Nat => ⟨[(0, .int n), (3, .ref 0 []), (4, .int i)], [(0, .t3 (List.replicate i (List.replicate n (List.replicate n 0))))]⟩) (fun i => i ≤ n) (fun i => n - i) 0 (Nat.zero_le _) (by refine And.intro ?_ rfl; simp only [leS, Nat.reduceEqDiff, ↓reduceIte, true_and, and_true]; repeat' (first | rfl | with_reducible refine And.intro ?_ ?_ | omega)) (fun i hi => ?_)
 have hl : (List.replicate i (List.replicate n (List.replicate n (0 : Int)))).length = i := List.length_replicate
 refine gA ?_
 refine gI (fun hli => ?_) fun hli => ?_
 ·refine ats_skip ?_
  (repeat refine ats_seq ?_); refine ats_block ?_
  refine gA ?_
  refine gA ?_
  (repeat refine ats_seq ?_); refine ats_loop (fun j : Nat => ⟨[(0, .int n), (3, .ref 0 []), (4, .int i), (5, .ref 1 []), (6, .int j)], [(0, .t3 (List.replicate i (List.replicate n (List.replicate n 0)))), (1, .t2 (List.replicate j (List.replicate n 0)))]⟩) (fun j => j ≤ n) (fun j => n - j) 0 (Nat.zero_le _) (by refine And.intro ?_ rfl; simp only [leS, Nat.reduceEqDiff, ↓reduceIte, true_and, and_true]; repeat' (first | rfl | with_reducible refine And.intro ?_ ?_ | omega)) (fun j hj => ?_)
  have hl2 : (List.replicate j (List.replicate n (0 : Int))).length = j := List.length_replicate
  refine gA ?_
  refine gI (fun hlj => ?_) fun hlj => ?_
  ·refine ats_skip ?_
   (repeat refine ats_seq ?_); refine ats_block ?_
   refine gC fun K hK => ?_
   simp only [hl2]
   (repeat refine aI (hb := ?_))
   refine hK _ ?_; clear hK K
   refine gB ?_
   refine ⟨j + 1,  by omega, by omega, .inl ⟨by simp only [leS, Nat.reduceEqDiff, ↓reduceIte, true_and, and_true]; omega,  by simp only [List.replicate_succ']⟩⟩
  ·obtain rfl : j = n := by omega
   refine ats_exit (lq_x ?_)
   refine gC fun K hK => ?_
   (repeat refine And.intro (by (first | omega | (rw [hl]; omega))) ?_)
   refine hK _ ?_; clear hK K
   refine gB ?_
   refine ⟨i + 1,  by omega, by omega, .inl ⟨by simp only [leS, Nat.reduceEqDiff, ↓reduceIte, true_and, and_true]; omega,  by simp only [List.replicate_succ' (n := i)]⟩⟩
 ·obtain rfl : i = n := by omega
  refine ats_exit (lq_x ?_)
  refine gA ?_
  exact ats_ret (ownV (is := [0]) rfl ⟨rfl, trivial⟩ rfl (by simp))
end Go.Proofs.YtjpdkdepbkmebaaGreat
namespace Go.Proofs.YtjpdkdepbkmebaaGreat
open Go Go.Aw Go.Pl
theorem l12Numbers_ok (s : List (List Int)) (t c : List Int) (hs : Shape s t) (hc : c.length = t.length) (hC : ∀ k, k < t.length → 0 ≤ c.getD k 0 ∧ c.getD k 0 < t.length) : PureCall Tryz.prog 52 [.agg [.l2 s, .l1 t], .l1 c] (.l3 (numD s t.length c)) := by
 have h16 := hs.2.1
 have h1 := hs.1
 have hm := hs.2.2.1
 have ls := hm.1
 have r0 := hm.row (show 0 < t.length by omega)
 have hW := l12Whole_ok s t hs
 have pW : InP (wholeD s t.length) := inP_md _
 have piW := inv_InP pW
 refine PureCall.intro (n := 111) (rs := [.tmp 4]) Tryz.call52 Tryz.func52 rfl rfl rfl (by simp only [List.length_cons, List.length_nil]; omega) (fun cx hcx => ats_of ?_); simp only [argSlots, Nat.zero_add, Nat.reduceAdd]
 refine gA ?_
 refine gA ?_
 refine gC fun K hK => ?_
 first | refine fcall_free rfl rfl (hW) ?_ | refine YR_intro (acall_free rfl rfl (hW)) ?_
 simp only [go_sem, seval]
 first | refine fcall_free rfl rfl (l01Inv_ok (wholeD s t.length) pW) ?_ | refine YR_intro (acall_free rfl rfl (l01Inv_ok (wholeD s t.length) pW)) ?_
 simp only [go_sem, seval]
 refine hK _ ?_; clear hK K
 refine gC fun K hK => ?_
 refine fcall_own rfl (l06Empty_ok t.length h16) rfl ?_; simp only [go_sem, seval]
 refine hK _ ?_; clear hK K
 refine gA ?_
 refine gA ?_
 (repeat refine ats_seq ?_); refine ats_loop (fun l : Nat => ⟨[(1, .l1 c), (2, .bptr 0 0), (5, .int t.length), (6, .int (inv (wholeD s t.length))), (7, .ref 1 []), (8, .ref 2 []), (9, .int l)], [(1, .t3 (List.replicate t.length (List.replicate t.length (List.replicate t.length 0)))), (0, .bx [.l2 s, .l1 t]), (2, .t1 ((List.range l).map (ivL s t.length)))]⟩) (fun l => l ≤ t.length) (fun l => t.length - l) 0 (Nat.zero_le _) (by refine And.intro ?_ rfl; simp only [leS, Nat.reduceEqDiff, ↓reduceIte, true_and, and_true]; repeat' (first | rfl | with_reducible refine And.intro ?_ ?_ | omega)) (fun l hl => ?_)
 have hl : ((List.range l).map (ivL s t.length)).length = l := by simp
 refine gA ?_
 refine gI (fun hll => ?_) fun hll => ?_
 ·have p0 := hm.inP (show 0 < t.length by omega) (show l < t.length by omega)
  have mp := mulP (inv_InP p0) piW
  have hI := l01Inv_ok _ p0
  simp only [e2] at mp hI
  refine ats_skip ?_
  (repeat refine ats_seq ?_); refine ats_block ?_
  refine gC fun K hK => ?_
  (repeat refine aI (hb := ?_))
  first | refine fcall_free rfl rfl (hI) ?_ | refine YR_intro (acall_free rfl rfl (hI)) ?_
  simp only [go_sem, seval]
  try simp (disch := omega) only [tmP, tdP]
  (repeat refine And.intro (by (first | omega | (rw [hl]; omega))) ?_)
  refine hK _ ?_; clear hK K
  refine gB ?_
  refine ⟨l + 1, by omega, by omega, .inr ⟨[3], by simp only [killL, List.map_cons, List.map_nil, killA, killAs, qOf, rmT, killH, killT, List.filter_cons, List.filter_nil, List.contains_cons, List.contains_nil, SlotsLe, St.get, slotGet, Nat.reduceEqDiff, Nat.reduceBEq, Bool.or_false, Bool.or_true, Bool.false_and, Bool.not_true, Bool.not_false, Bool.false_eq_true, ↓reduceIte, if_true, if_false, AV.int.injEq, AV.bool.injEq, AV.l1.injEq, AV.l2.injEq, AV.l3.injEq, true_and, and_true]; omega, by simp only [killL, List.map_cons, List.map_nil, killA, killAs, qOf, rmT, killH, killT, List.filter_cons, List.filter_nil, List.contains_cons, List.contains_nil, SlotsLe, St.get, slotGet, Nat.reduceEqDiff, Nat.reduceBEq, Bool.or_false, Bool.or_true, Bool.false_and, Bool.not_true, Bool.not_false, Bool.false_eq_true, ↓reduceIte, if_true, if_false, AV.int.injEq, AV.bool.injEq, AV.l1.injEq, AV.l2.injEq, AV.l3.injEq, true_and, and_true]; simp only [List.range_succ, List.map_append, List.map_cons, List.map_nil]; rfl⟩⟩
 ·obtain rfl : l = t.length := by omega
  have hlv : ((List.range t.length).map (ivL s t.length)).length = t.length := by simp
  refine ats_exit (lq_x ?_)
  rw [← cubL_zero (g := numV s t.length c)]
  refine gA ?_
  (repeat refine ats_seq ?_); refine ats_loop (fun i : Nat => ⟨[(1, .l1 c), (2, .bptr 0 0), (5, .int t.length), (7, .ref 1 []), (8, .ref 2 []), (10, .int i)], [(1, .t3 (cubL t.length (numV s t.length c) i 0 0)), (0, .bx [.l2 s, .l1 t]), (2, .t1 ((List.range t.length).map (ivL s t.length)))]⟩) (fun i => i ≤ t.length) (fun i => t.length - i) 0 (Nat.zero_le _) (by refine And.intro ?_ rfl; simp only [leS, Nat.reduceEqDiff, ↓reduceIte, true_and, and_true]; repeat' (first | rfl | with_reducible refine And.intro ?_ ?_ | omega)) (fun i hi => ?_)
  refine gA ?_
  refine gI (fun hli => ?_) fun hli => ?_
  ·have ri := hm.row (show i < t.length by omega)
   refine ats_skip ?_
   (repeat refine ats_seq ?_); refine ats_block ?_
   refine gA ?_
   (repeat refine ats_seq ?_); refine ats_loop (fun j : Nat => ⟨[(1, .l1 c), (2, .bptr 0 0), (5, .int t.length), (7, .ref 1 []), (8, .ref 2 []), (10, .int i), (11, .int j)], [(1, .t3 (cubL t.length (numV s t.length c) i j 0)), (0, .bx [.l2 s, .l1 t]), (2, .t1 ((List.range t.length).map (ivL s t.length)))]⟩) (fun j => j ≤ t.length) (fun j => t.length - j) 0 (Nat.zero_le _) (by refine And.intro ?_ rfl; simp only [leS, Nat.reduceEqDiff, ↓reduceIte, true_and, and_true]; repeat' (first | rfl | with_reducible refine And.intro ?_ ?_ | omega)) (fun j hj => ?_)
   refine gA ?_
   refine gI (fun hlj => ?_) fun hlj => ?_
   ·have rj := hm.row (show j < t.length by omega)
    refine ats_skip ?_
    (repeat refine ats_seq ?_); refine ats_block ?_
    refine gA ?_
    refine gA ?_
    (repeat refine ats_seq ?_); refine ats_loop (fun l : Nat => ⟨[(1, .l1 c), (2, .bptr 0 0), (5, .int t.length), (7, .ref 1 []), (8, .ref 2 []), (10, .int i), (11, .int j), (12, .ref 3 []), (13, .int l)], [(1, .t3 (cubL t.length (numV s t.length c) i j 0)), (0, .bx [.l2 s, .l1 t]), (2, .t1 ((List.range t.length).map (ivL s t.length))), (3, .t1 ((List.range l).map (boF s t.length i j)))]⟩) (fun l => l ≤ t.length) (fun l => t.length - l) 0 (Nat.zero_le _) (by refine And.intro ?_ rfl; simp only [leS, Nat.reduceEqDiff, ↓reduceIte, true_and, and_true]; repeat' (first | rfl | with_reducible refine And.intro ?_ ?_ | omega)) (fun l hl => ?_)
    have hl : ((List.range l).map (boF s t.length i j)).length = l := by simp
    refine gA ?_
    refine gI (fun hll => ?_) fun hll => ?_
    ·have gl : ((List.range t.length).map (ivL s t.length)).getD l 0 = ivL s t.length l := map_get (by omega)
     have pl : InP (ivL s t.length l) := inP_md _
     have mp := mulP (hm.inP (show i < t.length by omega) (show l < t.length by omega)) (hm.inP (show j < t.length by omega) (show l < t.length by omega))
     have mq := mulP (inP_md (e2 s i l * e2 s j l)) pl
     simp only [e2] at mp mq
     refine ats_skip ?_
     (repeat refine ats_seq ?_); refine ats_block ?_
     (repeat refine ats_seq ?_); refine ats_pickP [0, 1, 2, 3, 4, 5, 6, 7, 8, 9, 10, 11, 12, 13, 14, 15, 16, 17, 18, 19, 20, 21, 22, 23, 24, 25, 26, 27] (fix0 hcx) mixed (by kernel_rfl) fun K hK => ?_; simp only [pickL, pickO, List.map_cons, List.map_nil, List.getElem?_toArray, List.getElem?_cons_zero, List.getElem?_cons_succ, Option.getD_some]; simp only [go_sem, seval]
     simp only [gl]
     try simp (disch := omega) only [tmP, tdP]
     (repeat refine And.intro (by (first | omega | (rw [hlv]; omega) | (rw [hl]; omega))) ?_)
     refine hK _ ?_; clear hK K
     refine gB ?_
     refine ⟨l + 1, by omega, by omega, .inr ⟨[4], by simp only [killL, List.map_cons, List.map_nil, killA, killAs, qOf, rmT, killH, killT, List.filter_cons, List.filter_nil, List.contains_cons, List.contains_nil, SlotsLe, St.get, slotGet, Nat.reduceEqDiff, Nat.reduceBEq, Bool.or_false, Bool.or_true, Bool.false_and, Bool.not_true, Bool.not_false, Bool.false_eq_true, ↓reduceIte, if_true, if_false, AV.int.injEq, AV.bool.injEq, AV.l1.injEq, AV.l2.injEq, AV.l3.injEq, true_and, and_true]; omega, by simp only [killL, List.map_cons, List.map_nil, killA, killAs, qOf, rmT, killH, killT, List.filter_cons, List.filter_nil, List.contains_cons, List.contains_nil, SlotsLe, St.get, slotGet, Nat.reduceEqDiff, Nat.reduceBEq, Bool.or_false, Bool.or_true, Bool.false_and, Bool.not_true, Bool.not_false, Bool.false_eq_true, ↓reduceIte, if_true, if_false, AV.int.injEq, AV.bool.injEq, AV.l1.injEq, AV.l2.injEq, AV.l3.injEq, true_and, and_true]; simp only [List.range_succ (n := l), List.map_append, List.map_cons, List.map_nil]; rfl⟩⟩
    ·obtain rfl : l = t.length := by omega
     have hlb : ((List.range t.length).map (boF s t.length i j)).length = t.length := by simp
     refine ats_exit (lq_x ?_)
     refine gA ?_
     (repeat refine ats_seq ?_); refine ats_loop (fun k : Nat => ⟨[(1, .l1 c), (2, .bptr 0 0), (5, .int t.length), (7, .ref 1 []), (8, .ref 2 []), (10, .int i), (11, .int j), (12, .ref 3 []), (14, .int k)], [(1, .t3 (cubL t.length (numV s t.length c) i j k)), (0, .bx [.l2 s, .l1 t]), (2, .t1 ((List.range t.length).map (ivL s t.length))), (3, .t1 ((List.range t.length).map (boF s t.length i j)))]⟩) (fun k => k ≤ t.length) (fun k => t.length - k) 0 (Nat.zero_le _) (by refine And.intro ?_ rfl; simp only [leS, Nat.reduceEqDiff, ↓reduceIte, true_and, and_true]; repeat' (first | rfl | with_reducible refine And.intro ?_ ?_ | omega)) (fun k hk => ?_)
     have hcl : (cubL t.length (numV s t.length c) i j k).length = t.length := cubL_length
     refine gA ?_
     refine gI (fun hlk => ?_) fun hlk => ?_
     ·have hck := hC k (by omega)
      have rk := hm.row (show (c.getD k 0).toNat < t.length by omega)
      have hd : PureCall Tryz.prog 80 [.l1 ((List.range t.length).map (boF s t.length i j)), .l1 (s.getD (c.getD k 0).toNat [])] (.int (numV s t.length c i j k)) := by
       rw [← spNum]
       exact l01Dot_ok _ _ t.length (by omega) hlb rk (fun l hl => by rw [map_get hl]; exact inP_md _) (fun l hl => hm.inP (by omega) hl)
      have c1 : ((cubL t.length (numV s t.length c) i j k).getD i []).length = t.length := cubF_mat (by omega)
      have c2 : (((cubL t.length (numV s t.length c) i j k).getD i []).getD j []).length = t.length := cubF_row (by omega) (by omega)
      refine ats_skip ?_
      (repeat refine ats_seq ?_); refine ats_block ?_
      (repeat refine ats_seq ?_); refine ats_pick (fix0 hcx) mixed (by kernel_rfl) fun K hK => ?_; simp only [go_sem, seval]
      simp only [hcl, c1, c2]
      (repeat refine aI (hb := ?_))
      first | refine fcall_free rfl rfl (hd) ?_ | refine YR_intro (acall_free rfl rfl (hd)) ?_
      simp only [go_sem, seval]
      (repeat refine aI (hb := ?_))
      refine hK _ ?_; clear hK K
      refine gB ?_
      refine ⟨k + 1,  by omega, by omega, .inl ⟨by simp only [leS, Nat.reduceEqDiff, ↓reduceIte, true_and, and_true]; omega,  by rw [← cubL_set (show i < t.length by omega) (show j < t.length by omega)]⟩⟩
     ·obtain rfl : k = t.length := by omega
      refine ats_exit (lq_x (ats_nil (bq_n ?_)))
      refine gB ?_
      refine ⟨j + 1, by omega, by omega, .inr ⟨[3], by simp only [killL, List.map_cons, List.map_nil, killA, killAs, qOf, rmT, killH, killT, List.filter_cons, List.filter_nil, List.contains_cons, List.contains_nil, SlotsLe, St.get, slotGet, Nat.reduceEqDiff, Nat.reduceBEq, Bool.or_false, Bool.or_true, Bool.false_and, Bool.not_true, Bool.not_false, Bool.false_eq_true, ↓reduceIte, if_true, if_false, AV.int.injEq, AV.bool.injEq, AV.l1.injEq, AV.l2.injEq, AV.l3.injEq, true_and, and_true]; omega, by simp only [killL, List.map_cons, List.map_nil, killA, killAs, qOf, rmT, killH, killT, List.filter_cons, List.filter_nil, List.contains_cons, List.contains_nil, SlotsLe, St.get, slotGet, Nat.reduceEqDiff, Nat.reduceBEq, Bool.or_false, Bool.or_true, Bool.false_and, Bool.not_true, Bool.not_false, Bool.false_eq_true, ↓reduceIte, if_true, if_false, AV.int.injEq, AV.bool.injEq, AV.l1.injEq, AV.l2.injEq, AV.l3.injEq, true_and, and_true]; rw [cubL_row]⟩⟩
   ·obtain rfl : j = t.length := by omega
    refine ats_exit (lq_x (ats_nil (bq_n ?_)))
    refine gB ?_
    refine ⟨i + 1,  by omega, by omega, .inl ⟨by simp only [leS, Nat.reduceEqDiff, ↓reduceIte, true_and, and_true]; omega,  by rw [cubL_mat]⟩⟩
  ·obtain rfl : i = t.length := by omega
   refine ats_exit (lq_x ?_)
   rw [cubL_all]
   refine gA ?_
   exact ats_ret (finV rfl ⟨rfl, trivial⟩ rfl)
end Go.Proofs.YtjpdkdepbkmebaaGreat
namespace Go.Proofs.YtjpdkdepbkmebaaGreat
open Go Go.Aw Go.Pl
set_option maxHeartbeats 2000000 in
theorem l12Fault_ok (s : List (List Int)) (t : List Int) (hs : Shape s t) : PureCall Tryz.prog 33 [.agg [.l2 s, .l1 t]] (.int (dF s t)) := by
 have h16 := hs.2.1
 have h1 := hs.1
 have hm := hs.2.2.1
 have ht := hs.2.2.2
 have ls := hm.1
 have r0 := hm.row (show 0 < t.length by omega)
 have hW := l12Whole_ok s t hs
 refine PureCall.intro (n := 170) (rs := [.tmp 2]) Tryz.call33 Tryz.func33 rfl rfl rfl (by simp only [List.length_cons, List.length_nil]; omega) (fun cx hcx => ats_of ?_); simp only [argSlots, Nat.zero_add, Nat.reduceAdd]
 refine gA ?_
 refine gA ?_
 refine gA ?_
 (repeat refine ats_seq ?_); refine ats_loop (fun i : Nat => ⟨[(1, .bptr 0 0), (3, .int t.length), (4, .int i)], [(0, .bx [.l2 s, .l1 t])]⟩) (fun i => i ≤ t.length ∧ ∀ b, b < i → ∀ j, j < t.length → e2 s b j = e2 s j b ∧ e2 s 0 b ≠ 0 ∧ t.getD b 0 ≠ 0 ∧ e2 s 0 0 = 1 ∧ t.getD 0 0 = 1) (fun i => t.length - i) 0 ⟨Nat.zero_le _, fun a h => absurd h (Nat.not_lt_zero a)⟩ (by refine And.intro ?_ rfl; simp only [leS, Nat.reduceEqDiff, ↓reduceIte, true_and, and_true]; rfl) (fun i hi => ?_); obtain ⟨hi, Hi⟩ := hi
 refine gA ?_
 refine gI (fun hli => ?_) fun hli => ?_
 ·have ri := hm.row (show i < t.length by omega)
  refine ats_skip ?_
  (repeat refine ats_seq ?_); refine ats_block ?_
  refine gA ?_
  (repeat refine ats_seq ?_); refine ats_loop (fun j : Nat => ⟨[(1, .bptr 0 0), (3, .int t.length), (4, .int i), (5, .int j)], [(0, .bx [.l2 s, .l1 t])]⟩) (fun j => j ≤ t.length ∧ ∀ b, b < j → e2 s i b = e2 s b i ∧ e2 s 0 i ≠ 0 ∧ t.getD i 0 ≠ 0 ∧ e2 s 0 0 = 1 ∧ t.getD 0 0 = 1) (fun j => t.length - j) 0 ⟨Nat.zero_le _, fun a h => absurd h (Nat.not_lt_zero a)⟩ (by refine And.intro ?_ rfl; simp only [leS, Nat.reduceEqDiff, ↓reduceIte, true_and, and_true]; rfl) (fun j hj => ?_); obtain ⟨hj, Hj⟩ := hj
  refine gA ?_
  refine gI (fun hlj => ?_) fun hlj => ?_
  ·have rj := hm.row (show j < t.length by omega)
   refine ats_skip ?_
   (repeat refine ats_seq ?_); refine ats_block ?_
   (repeat refine ats_seq ?_); refine ats_pick (fix0 hcx) mixed (by kernel_rfl) fun K hK => ?_; simp only [go_sem, seval]; (repeat refine aI (hb := ?_)); refine hK _ ?_; clear hK K
   refine gI (fun h2 => ?_) fun h2 => ?_
   ·simp only [Bool.or_eq_true, Bool.not_eq_true', decide_eq_false_iff_not, decide_eq_true_eq] at h2
    have e : dF s t = 0 := dF_0 (fun h => by
     rcases h2 with (((h2 | h2) | h2) | h2) | h2
     ·exact h2 (h.1 i (by omega) j (by omega))
     ·exact h.2.2.2.1 i (by omega) h2
     ·exact h.2.2.2.2 i (by omega) h2
     ·exact h2 h.2.1
     ·exact h2 h.2.2.1)
    refine gA ?_
    refine ats_ret (finI rfl ?_)
    exact e.symm
   ·simp only [Bool.or_eq_false_iff, Bool.not_eq_false', decide_eq_false_iff_not, decide_eq_true_eq] at h2
    refine ats_skip ?_
    refine gB ?_
    refine ⟨j + 1, ⟨by omega, fun a ha => by rcases Nat.lt_succ_iff_lt_or_eq.1 ha with h | rfl; exact Hj a h; exact ⟨h2.1.1.1.1, h2.1.1.1.2, h2.1.1.2, h2.1.2, h2.2⟩⟩, by omega, .inl ⟨?_, rfl⟩⟩; simp only [leS, Nat.reduceEqDiff, ↓reduceIte, true_and, and_true]; omega
  ·refine ats_exit (lq_x (ats_nil (bq_n ?_)))
   refine gB ?_
   refine ⟨i + 1, ⟨by omega, fun a ha => by rcases Nat.lt_succ_iff_lt_or_eq.1 ha with h | rfl; exact Hi a h; exact (fun j hj => Hj j (by omega))⟩, by omega, .inl ⟨?_, rfl⟩⟩; simp only [leS, Nat.reduceEqDiff, ↓reduceIte, true_and, and_true]; omega
 ·have hSt : StartP s t := cond_start h1 (fun i hi => Hi i (by omega))
  clear Hi
  refine ats_exit (lq_x ?_)
  refine gC fun K hK => ?_
  first | refine fcall_free rfl rfl (hW) ?_ | refine YR_intro (acall_free rfl rfl (hW)) ?_
  simp only [go_sem, seval]
  refine hK _ ?_; clear hK K
  refine gI (fun h0 => ?_) fun h0 => ?_
  ·have e : dF s t = 1 := dF_1 hSt h0
   refine gA ?_
   refine ats_ret (finI rfl ?_)
   exact e.symm
  ·have hC := l12Conjugation_ok s t hs h0
   refine ats_skip ?_
   cases hc : cj s t with
   | none =>
    rw [hc] at hC
    simp only [optA] at hC
    have e : dF s t = 2 := dF_2 hSt h0 hc
    refine gC fun K hK => ?_
    first | refine fcall_data (hC) rfl ?_ | refine YR_intro (acall_data (hC) rfl) ?_
    simp only [go_sem, seval]
    refine hK _ ?_; clear hK K
    refine gA ?_
    refine gI (fun h5 => ?_) fun h5 => ?_
    ·refine gA ?_
     refine ats_ret (finI rfl ?_)
     exact e.symm
    ·exact absurd trivial h5
   | some c =>
    rw [hc] at hC
    simp only [optA] at hC
    obtain ⟨hcl, hcb⟩ := cj_in hc
    have hN := l12Numbers_ok s t c hs hcl hcb
    have hG := l12Gauss_ok s t t hs rfl ht
    have hu := uD_MatP hs
    refine gC fun K hK => ?_
    first | refine fcall_data (hC) rfl ?_ | refine YR_intro (acall_data (hC) rfl) ?_
    simp only [go_sem, seval]
    refine hK _ ?_; clear hK K
    refine gA ?_
    refine gI (fun h5 => ?_) fun h5 => ?_
    ·omega
    ·refine ats_skip ?_
     refine gA ?_
     refine gA ?_
     (repeat refine ats_seq ?_); refine ats_loop (fun i : Nat => ⟨[(1, .bptr 0 0), (3, .int t.length), (6, .l1 c), (7, .ref 1 []), (8, .int i)], [(0, .bx [.l2 s, .l1 t]), (1, .t2 ((List.range i).map fun i => rowF t.length fun j => e2 s i j * t.getD j 0 % 55441))]⟩) (fun i => i ≤ t.length) (fun i => t.length - i) 0 (Nat.zero_le _) (by refine And.intro ?_ rfl; simp only [leS, Nat.reduceEqDiff, ↓reduceIte, true_and, and_true]; repeat' (first | rfl | with_reducible refine And.intro ?_ ?_ | omega)) (fun i hi => ?_)
     have hl : ((List.range i).map fun i => rowF t.length fun j => e2 s i j * t.getD j 0 % 55441).length = i := by simp
     refine gA ?_
     refine gI (fun hli => ?_) fun hli => ?_
     ·have ri := hm.row (show i < t.length by omega)
      refine ats_skip ?_
      (repeat refine ats_seq ?_); refine ats_block ?_
      refine gA ?_
      refine gA ?_
      (repeat refine ats_seq ?_); refine ats_loop (fun j : Nat => ⟨[(1, .bptr 0 0), (3, .int t.length), (6, .l1 c), (7, .ref 1 []), (8, .int i), (9, .ref 2 []), (10, .int j)], [(0, .bx [.l2 s, .l1 t]), (1, .t2 ((List.range i).map fun i => rowF t.length fun j => e2 s i j * t.getD j 0 % 55441)), (2, .t1 ((List.range j).map fun j => e2 s i j * t.getD j 0 % 55441))]⟩) (fun j => j ≤ t.length) (fun j => t.length - j) 0 (Nat.zero_le _) (by refine And.intro ?_ rfl; simp only [leS, Nat.reduceEqDiff, ↓reduceIte, true_and, and_true]; repeat' (first | rfl | with_reducible refine And.intro ?_ ?_ | omega)) (fun j hj => ?_)
      have hl2 : ((List.range j).map fun j => e2 s i j * t.getD j 0 % 55441).length = j := by simp
      refine gA ?_
      refine gI (fun hlj => ?_) fun hlj => ?_
      ·have mp := mulP (hm.inP (show i < t.length by omega) (show j < t.length by omega)) (ht j (by omega))
       simp only [e2] at mp
       refine ats_skip ?_
       (repeat refine ats_seq ?_); refine ats_block ?_
       (repeat refine ats_seq ?_); refine ats_pickP [0, 1, 2, 3, 4, 5, 6, 7, 8, 9, 10, 11, 12, 13, 14, 15, 16, 17, 18] (fix0 hcx) mixed (by kernel_rfl) fun K hK => ?_; simp only [pickL, pickO, List.map_cons, List.map_nil, List.getElem?_toArray, List.getElem?_cons_zero, List.getElem?_cons_succ, Option.getD_some]; simp only [go_sem, seval]
       try simp (disch := omega) only [tmP, tdP]
       (repeat refine And.intro (by (first | omega | (rw [hl2]; omega))) ?_)
       refine hK _ ?_; clear hK K
       refine gB ?_
       refine ⟨j + 1, by omega, by omega, .inr ⟨[3], by simp only [killL, List.map_cons, List.map_nil, killA, killAs, qOf, rmT, killH, killT, List.filter_cons, List.filter_nil, List.contains_cons, List.contains_nil, SlotsLe, St.get, slotGet, Nat.reduceEqDiff, Nat.reduceBEq, Bool.or_false, Bool.or_true, Bool.false_and, Bool.not_true, Bool.not_false, Bool.false_eq_true, ↓reduceIte, if_true, if_false, AV.int.injEq, AV.bool.injEq, AV.l1.injEq, AV.l2.injEq, AV.l3.injEq, true_and, and_true]; omega, by simp only [killL, List.map_cons, List.map_nil, killA, killAs, qOf, rmT, killH, killT, List.filter_cons, List.filter_nil, List.contains_cons, List.contains_nil, SlotsLe, St.get, slotGet, Nat.reduceEqDiff, Nat.reduceBEq, Bool.or_false, Bool.or_true, Bool.false_and, Bool.not_true, Bool.not_false, Bool.false_eq_true, ↓reduceIte, if_true, if_false, AV.int.injEq, AV.bool.injEq, AV.l1.injEq, AV.l2.injEq, AV.l3.injEq, true_and, and_true]; simp only [List.range_succ (n := j), List.map_append, List.map_cons, List.map_nil]⟩⟩
      ·obtain rfl : j = t.length := by omega
       refine ats_exit (lq_x ?_)
       refine gC fun K hK => ?_
       (repeat refine And.intro (by (first | omega | (rw [hl]; omega))) ?_)
       refine hK _ ?_; clear hK K
       refine gB ?_
       refine ⟨i + 1,  by omega, by omega, .inl ⟨by simp only [leS, Nat.reduceEqDiff, ↓reduceIte, true_and, and_true]; omega,  by simp only [List.range_succ (n := i), List.map_append, List.map_cons, List.map_nil]; rfl⟩⟩
     ·obtain rfl : i = t.length := by omega
      have eu : ((List.range t.length).map fun i => rowF t.length fun j => e2 s i j * t.getD j 0 % 55441) = uD s t t.length := rfl
      have k1 := l12Times_ok (uD s t t.length) (uD s t t.length) t.length h16 hu hu
      have k2 : FreshCall Tryz.prog 49 [.l2 (mulM (uD s t t.length) (uD s t t.length) t.length), .l2 (uD s t t.length)] (.l2 (cubeD s t t.length)) := l12Times_ok _ _ t.length h16 (mulM_MatP ..) hu
      have k3 : FreshCall Tryz.prog 49 [.l2 s, .l2 s] (.l2 (sqD s t.length)) := l12Times_ok s s t.length h16 hm hm
      have mc := mulM_MatP (mulM (uD s t t.length) (uD s t t.length) t.length) (uD s t t.length) t.length
      have mq := mulM_MatP s s t.length
      have lc : (cubeD s t t.length).length = t.length := mc.1
      have lq : (sqD s t.length).length = t.length := mq.1
      refine ats_exit (lq_x ?_)
      rw [eu]
      (repeat refine ats_seq ?_); refine ats_pick (fix0 hcx) mixed (by kernel_rfl) fun K hK => ?_; simp only [go_sem, seval]
      first | refine fcall_fresh rfl (k1) ?_ | refine YR_intro (acall_fresh rfl (k1)) ?_
      simp only [go_sem, seval]
      first | refine fcall_fresh rfl (k2) ?_ | refine YR_intro (acall_fresh rfl (k2)) ?_
      simp only [go_sem, seval]
      first | refine fcall_fresh rfl (k3) ?_ | refine YR_intro (acall_fresh rfl (k3)) ?_
      simp only [go_sem, seval]
      first | refine fcall_data (hG) rfl ?_ | refine YR_intro (acall_data (hG) rfl) ?_
      simp only [go_sem, seval]
      refine hK _ ?_; clear hK K
      refine gA ?_
      (repeat refine ats_seq ?_); refine ats_loop (fun i : Nat => ⟨[(1, .bptr 0 0), (3, .int t.length), (6, .l1 c), (11, .l2 (cubeD s t t.length)), (12, .l2 (sqD s t.length)), (13, .int (gaussD s t t.length)), (14, .int i)], [(0, .bx [.l2 s, .l1 t]), (1, .t2 (uD s t t.length))]⟩) (fun i => i ≤ t.length ∧ ∀ b, b < i → ∀ j, j < t.length → e2 (cubeD s t t.length) b j = gaussD s t t.length * e2 (sqD s t.length) b j % 55441) (fun i => t.length - i) 0 ⟨Nat.zero_le _, fun a h => absurd h (Nat.not_lt_zero a)⟩ (by refine And.intro ?_ rfl; simp only [leS, Nat.reduceEqDiff, ↓reduceIte, true_and, and_true]; rfl) (fun i hi => ?_); obtain ⟨hi, Hi⟩ := hi
      refine gA ?_
      refine gI (fun hli => ?_) fun hli => ?_
      ·have ri : ((cubeD s t t.length).getD i []).length = t.length := mc.row (by omega)
       have rj : ((sqD s t.length).getD i []).length = t.length := mq.row (by omega)
       refine ats_skip ?_
       (repeat refine ats_seq ?_); refine ats_block ?_
       refine gA ?_
       (repeat refine ats_seq ?_); refine ats_loop (fun j : Nat => ⟨[(1, .bptr 0 0), (3, .int t.length), (6, .l1 c), (11, .l2 (cubeD s t t.length)), (12, .l2 (sqD s t.length)), (13, .int (gaussD s t t.length)), (14, .int i), (15, .int j)], [(0, .bx [.l2 s, .l1 t]), (1, .t2 (uD s t t.length))]⟩) (fun j => j ≤ t.length ∧ ∀ b, b < j → e2 (cubeD s t t.length) i b = gaussD s t t.length * e2 (sqD s t.length) i b % 55441) (fun j => t.length - j) 0 ⟨Nat.zero_le _, fun a h => absurd h (Nat.not_lt_zero a)⟩ (by refine And.intro ?_ rfl; simp only [leS, Nat.reduceEqDiff, ↓reduceIte, true_and, and_true]; rfl) (fun j hj => ?_); obtain ⟨hj, Hj⟩ := hj
       refine gA ?_
       refine gI (fun hlj => ?_) fun hlj => ?_
       ·have mp := mulP (show InP (gaussD s t t.length) from inP_md _) (show InP (e2 (sqD s t.length) i j) from mq.inP (by omega) (by omega))
        simp only [e2] at mp
        refine ats_skip ?_
        (repeat refine ats_seq ?_); refine ats_block ?_
        (repeat refine ats_seq ?_); refine ats_pick (fix0 hcx) mixed (by kernel_rfl) fun K hK => ?_; simp only [go_sem, seval]; (try simp (disch := omega) only [tmP, tdP]); (repeat refine aI (hb := ?_)); refine hK _ ?_; clear hK K
        refine gI (fun h2 => ?_) fun h2 => ?_
        ·have e : dF s t = 3 := dF_3 hSt h0 hc (fun h => h2 (h i (by omega) j (by omega)))
         refine gA ?_
         refine ats_ret (finI rfl ?_)
         exact e.symm
        ·refine ats_skip ?_
         refine gB ?_
         refine ⟨j + 1, ⟨by omega, fun a ha => by rcases Nat.lt_succ_iff_lt_or_eq.1 ha with h | rfl; exact Hj a h; exact h2⟩, by omega, .inl ⟨?_, rfl⟩⟩; simp only [leS, Nat.reduceEqDiff, ↓reduceIte, true_and, and_true]; omega
       ·refine ats_exit (lq_x (ats_nil (bq_n ?_)))
        refine gB ?_
        refine ⟨i + 1, ⟨by omega, fun a ha => by rcases Nat.lt_succ_iff_lt_or_eq.1 ha with h | rfl; exact Hi a h; exact (fun j hj => Hj j (by omega))⟩, by omega, .inl ⟨?_, rfl⟩⟩; simp only [leS, Nat.reduceEqDiff, ↓reduceIte, true_and, and_true]; omega
      ·have hTn : TurnP s t := fun i hi => Hi i (by omega)
       clear Hi
       have hR := l03Is_ok (numD s t.length c)
       refine ats_exit (lq_x ?_)
       refine gC fun K hK => ?_
       first | refine fcall_data (hN) rfl ?_ | refine YR_intro (acall_data (hN) rfl) ?_
       simp only [go_sem, seval]
       first | refine fcall_data (hR) rfl ?_ | refine YR_intro (acall_data (hR) rfl) ?_
       simp only [go_sem, seval]
       refine hK _ ?_; clear hK K
       cases hr : isRing (numD s t.length c) with
       | false =>
        have e : dF s t = 4 := dF_4 hSt h0 hc hTn hr
        (repeat refine ats_seq ?_); refine ats_yes rfl trivial ?_
        refine gA ?_
        refine ats_ret (finI rfl ?_)
        exact e.symm
       | true =>
        have e : dF s t = -1 := dF_5 hSt h0 hc hTn hr
        (repeat refine ats_seq ?_); refine ats_no rfl trivial ?_
        refine ats_skip ?_
        refine gA ?_
        refine ats_ret (finI rfl ?_)
        exact e.symm
theorem l12Is_ok (s : List (List Int)) (t : List Int) : PureCall Tryz.prog 15 [.agg [.l2 s, .l1 t]] (.bool (isData s t)) := by
 have hk := l12Shape_ok s t
 refine PureCall.intro (n := 10) (rs := [.tmp 2]) Tryz.call15 Tryz.func15 rfl rfl rfl (by simp only [List.length_cons, List.length_nil]; omega) (fun cx hcx => ats_of ?_); simp only [argSlots, Nat.zero_add, Nat.reduceAdd]
 refine gA ?_
 by_cases hs : Shape s t
 ·rw [bd_true hs] at hk
  have hf := l12Fault_ok s t hs
  have hr := dF_range s t
  refine gC fun K hK => ?_
  first | refine fcall_free rfl rfl (hk) ?_ | refine YR_intro (acall_free rfl rfl (hk)) ?_
  simp only [go_sem, seval]
  first | refine YR_intro (fun _ => acall_free rfl rfl (hf)) ?_ | refine YR_intro (acall_free rfl rfl (hf)) ?_
  simp only [go_sem, seval]
  refine hK _ ?_; clear hK K
  refine ats_ret (finB rfl ?_)
  by_cases h : dF s t = -1
  ·rw [isData_iff.2 ⟨hs, h⟩, h]; rfl
  ·rw [isData_no (fun hh => h hh.2)]
   simp only [Bool.false_eq, decide_eq_false_iff_not]
   omega
 ·rw [bd_false hs] at hk
  have e : isData s t = false := isData_no (fun hh => hs hh.1)
  refine gC fun K hK => ?_
  first | refine fcall_free rfl rfl (hk) ?_ | refine YR_intro (acall_free rfl rfl (hk)) ?_
  simp only [go_sem, seval]
  refine YR_intro (v := .int 0) (by first | trivial | (intro h; cases h)) ?_
  simp only [go_sem, seval]
  refine hK _ ?_; clear hK K
  refine ats_ret (finB rfl ?_)
  rw [e]
end Go.Proofs.YtjpdkdepbkmebaaGreat
namespace Go.Proofs.YtjpdkdepbkmebaaGreat
open Go Go.Aw Go.Pl
theorem areNumbers_ok (xs : List Int) : PureCall Tryz.prog 58 [.l1 xs] (.bool (numsB xs)) := by
 have hk : PureCall Tryz.prog 42 [.l1 xs, .int 0, .int 55440] (.bool (numsB xs)) := allWithin_ok xs 0 55440
 refine PureCall.intro (n := 5) (rs := [.tmp 2]) Tryz.call58 Tryz.func58 rfl rfl rfl (by simp only [List.length_cons, List.length_nil]; omega) (fun cx hcx => ats_of ?_); simp only [argSlots, Nat.zero_add, Nat.reduceAdd]
 refine gA ?_
 refine gC fun K hK => ?_
 first | refine fcall_free rfl rfl (hk) ?_ | refine YR_intro (acall_free rfl rfl (hk)) ?_
 simp only [go_sem, seval]
 refine hK _ ?_; clear hK K
 refine ats_ret (finB rfl ?_)
 rfl
theorem haveNumbers1_ok (r : List Int) : PureCall Tryz.prog 100 [.l1 r] (.bool (!(numsB r))) := by
 refine PureCall.intro (n := 6) (rs := [.tmp 2]) Tryz.call100 Tryz.func100 rfl rfl rfl (by simp only [List.length_cons, List.length_nil]; omega) (fun cx hcx => ats_of ?_); simp only [argSlots, Nat.zero_add, Nat.reduceAdd]
 refine gA ?_
 refine gC fun K hK => ?_
 first | refine fcall_free rfl rfl (areNumbers_ok r) ?_ | refine YR_intro (acall_free rfl rfl (areNumbers_ok r)) ?_
 simp only [go_sem, seval]
 refine hK _ ?_; clear hK K
 refine ats_ret (finB rfl ?_)
 rfl
theorem haveNumbers_ok (m : List (List Int)) : PureCall Tryz.prog 83 [.l2 m] (.bool (NumsM m)) := by
 refine PureCall.intro (n := 6) (rs := [.tmp 2]) Tryz.call83 Tryz.func83 rfl rfl rfl (by simp only [List.length_cons, List.length_nil]; omega) (fun cx hcx => ats_of ?_); simp only [argSlots, Nat.zero_add, Nat.reduceAdd]
 refine gA ?_
 refine gC fun K hK => ?_
 first | refine fcall_free rfl rfl (containsF2_ok m 100 [] (fun r => !(numsB r)) rfl (fun r => haveNumbers1_ok r)) ?_ | refine YR_intro (acall_free rfl rfl (containsF2_ok m 100 [] (fun r => !(numsB r)) rfl (fun r => haveNumbers1_ok r))) ?_
 simp only [go_sem, seval]
 refine hK _ ?_; clear hK K
 refine ats_ret (finB rfl ?_)
 rfl
theorem isBlock_ok (m : List (List Int)) : PureCall Tryz.prog 82 [.l2 m, .int 1] (.bool (bd (Blk m))) := by
 refine PureCall.intro (n := 40) (rs := [.tmp 4]) Tryz.call82 Tryz.func82 rfl rfl rfl (by simp only [List.length_cons, List.length_nil]; omega) (fun cx hcx => ats_of ?_); simp only [argSlots, Nat.zero_add, Nat.reduceAdd]
 refine gA ?_
 refine ats_know 0 fun h0 => ?_; simp only [St.get, slotGet, Nat.reduceEqDiff, ↓reduceIte, if_true, fact, facts] at h0
 have hlen := h0.1
 refine gA ?_
 (repeat refine ats_seq ?_); refine ats_loop (fun i : Nat => ⟨[(0, .l2 m), (1, .int 1), (7, .l2 m), (8, .int m.length), (9, .int i)], []⟩) (fun i => i ≤ m.length ∧ ∀ b, b < i → (1 ≤ (m.getD b []).length ∧ (m.getD b []).length ≤ 16 ∧ (m.getD b []).length = (m.getD 0 []).length)) (fun i => m.length - i) 0 ⟨Nat.zero_le _, fun a h => absurd h (Nat.not_lt_zero a)⟩ (by refine And.intro ?_ rfl; simp only [leS, Nat.reduceEqDiff, ↓reduceIte, true_and, and_true]; rfl) (fun i hi => ?_); obtain ⟨hi, Hi⟩ := hi
 refine gA ?_
 refine gI (fun hli => ?_) fun hli => ?_
 ·refine ats_skip ?_
  (repeat refine ats_seq ?_); refine ats_block ?_
  refine gB ?_
  refine gB ?_
  refine gI (fun h2 => ?_) fun h2 => ?_
  ·simp only [Bool.or_eq_true, Bool.not_eq_true', decide_eq_false_iff_not, decide_eq_true_eq] at h2
   refine gA ?_
   refine ats_ret (finB rfl ?_)
   exact (bd_false (fun h => by have := h.2 i (by omega); omega)).symm
  ·simp only [Bool.or_eq_false_iff, Bool.not_eq_false', decide_eq_false_iff_not, decide_eq_true_eq] at h2
   refine ats_skip ?_
   refine gB ?_
   refine ⟨i + 1, ⟨by omega, fun a ha => by rcases Nat.lt_succ_iff_lt_or_eq.1 ha with h | rfl; exact Hi a h; exact ⟨by omega, by omega, by omega⟩⟩, by omega, .inl ⟨?_, rfl⟩⟩; simp only [leS, Nat.reduceEqDiff, ↓reduceIte, true_and, and_true]; omega
 ·have hA : ∀ i, i < m.length → (1 ≤ (m.getD i []).length ∧ (m.getD i []).length ≤ 16 ∧ (m.getD i []).length = (m.getD 0 []).length) := fun i hi => Hi i (by omega)
  refine ats_exit (lq_x ?_)
  refine gA ?_
  refine ats_ret (finB rfl ?_)
  by_cases h1 : 1 ≤ m.length ∧ m.length ≤ 16
  ·rw [bd_true ⟨h1, hA⟩]
   simp only [Bool.true_eq, Bool.and_eq_true, decide_eq_true_eq]
   omega
  ·rw [bd_false (fun h => h1 h.1)]
   simp only [Bool.false_eq, Bool.and_eq_false_iff, decide_eq_false_iff_not]
   omega
theorem IsMatrix_ok (m : List (List Int)) : PureCall Tryz.prog 56 [.l2 m] (.bool (bd (Blk m ∧ NumsM m = true))) := by
 refine PureCall.intro (n := 9) (rs := [.tmp 2]) Tryz.call56 Tryz.func56 rfl rfl rfl (by simp only [List.length_cons, List.length_nil]; omega) (fun cx hcx => ats_of ?_); simp only [argSlots, Nat.zero_add, Nat.reduceAdd]
 refine gA ?_
 refine gC fun K hK => ?_
 first | refine fcall_free rfl rfl (isBlock_ok m) ?_ | refine YR_intro (acall_free rfl rfl (isBlock_ok m)) ?_
 simp only [go_sem, seval]
 first | refine YR_intro (fun _ => acall_free rfl rfl (haveNumbers_ok m)) ?_ | refine YR_intro (acall_free rfl rfl (haveNumbers_ok m)) ?_
 simp only [go_sem, seval]
 refine hK _ ?_; clear hK K
 refine ats_ret (finB rfl ?_)
 exact bd_and.symm
theorem isSquare_ok (m : List (List Int)) (h : 0 < m.length) : PureCall Tryz.prog 57 [.l2 m] (.bool (decide (m.length = (m.getD 0 []).length))) := by
 refine PureCall.intro (n := 10) (rs := [.tmp 2]) Tryz.call57 Tryz.func57 rfl rfl rfl (by simp only [List.length_cons, List.length_nil]; omega) (fun cx hcx => ats_of ?_); simp only [argSlots, Nat.zero_add, Nat.reduceAdd]
 refine gA ?_
 refine gB ?_
 refine ats_ret (finB rfl ?_)
 by_cases h1 : m.length = (m.getD 0 []).length
 ·rw [decide_eq_true h1, decide_eq_true (by omega)]
 ·rw [decide_eq_false h1, decide_eq_false (by omega)]
theorem isShape_ok (s : List (List Int)) (t : List Int) : PureCall Tryz.prog 36 [.agg [.l2 s, .l1 t]] (.bool (bd (Shape s t))) := by
 have hk := IsMatrix_ok s
 refine PureCall.intro (n := 27) (rs := [.tmp 2]) Tryz.call36 Tryz.func36 rfl rfl rfl (by simp only [List.length_cons, List.length_nil]; omega) (fun cx hcx => ats_of ?_); simp only [argSlots, Nat.zero_add, Nat.reduceAdd]
 refine gA ?_
 refine gA ?_
 by_cases h1 : Blk s ∧ NumsM s = true
 ·rw [bd_true h1] at hk
  refine gC fun K hK => ?_
  first | refine fcall_free rfl rfl (hk) ?_ | refine YR_intro (acall_free rfl rfl (hk)) ?_
  simp only [go_sem, seval]
  first | refine YR_intro (fun _ => acall_free rfl rfl (isSquare_ok s (by have := h1.1.1.1; omega))) ?_ | refine YR_intro (acall_free rfl rfl (isSquare_ok s (by have := h1.1.1.1; omega))) ?_
  simp only [go_sem, seval]
  first | refine YR_intro (fun _ => acall_free rfl rfl (areNumbers_ok t)) ?_ | refine YR_intro (acall_free rfl rfl (areNumbers_ok t)) ?_
  simp only [go_sem, seval]
  refine hK _ ?_; clear hK K
  refine ats_ret (finB rfl ?_)
  by_cases hs : Shape s t
  ·have hh := shape_iff.1 hs
   rw [bd_true hs, hh.2.2, decide_eq_true hh.1.2, decide_eq_true (by omega)]; rfl
  ·rw [bd_false hs]
   by_cases a1 : s.length = (s.getD 0 []).length
   ·by_cases a2 : t.length = s.length
    ·cases a3 : numsB t with
     | true => exact absurd (shape_iff.2 ⟨⟨h1, a1⟩, a2, a3⟩) hs
     | false => simp
    ·rw [decide_eq_false (p := (t.length : Int) = s.length) (by omega)]; simp
   ·rw [decide_eq_false a1]; simp
 ·rw [bd_false h1] at hk
  have e : bd (Shape s t) = false := bd_false (fun h => h1 (shape_iff.1 h).1.1)
  refine gC fun K hK => ?_
  first | refine fcall_free rfl rfl (hk) ?_ | refine YR_intro (acall_free rfl rfl (hk)) ?_
  simp only [go_sem, seval]
  refine YR_intro (v := .bool false) (by first | trivial | (intro h; cases h)) ?_
  simp only [go_sem, seval]
  refine YR_intro (v := .bool false) (by first | trivial | (intro h; cases h)) ?_
  simp only [go_sem, seval]
  refine hK _ ?_; clear hK K
  refine ats_ret (finB rfl ?_)
  rw [e]
theorem dot_ok (x y : List Int) (n : Nat) (h16 : n ≤ 64) (hx : x.length = n) (hy : y.length = n) (px : ∀ i, i < n → InP (x.getD i 0)) (py : ∀ i, i < n → InP (y.getD i 0)) : PureCall Tryz.prog 85 [.l1 x, .l1 y] (.int (dotP x y n)) := by
 have bd : ∀ k, k < n → 0 ≤ dotG x y k ∧ dotG x y k ≤ 3073593600 := fun k hk => mulP (px k hk) (py k hk)
 refine PureCall.intro (n := 27) (rs := [.tmp 4]) Tryz.call85 Tryz.func85 rfl rfl rfl (by simp only [List.length_cons, List.length_nil]; omega) (fun cx hcx => ats_of ?_); simp only [argSlots, Nat.zero_add, Nat.reduceAdd]
 refine gA ?_
 refine gA ?_
 refine gA ?_
 (repeat refine ats_seq ?_); refine ats_loop (fun k : Nat => ⟨[(0, .l1 x), (1, .l1 y), (5, .int (sumTo (fun k => dotG x y k % 55441) k)), (8, .int n), (9, .int k)], []⟩) (fun k => k ≤ n) (fun k => n - k) 0 (Nat.zero_le _) (by refine And.intro ?_ rfl; simp only [leS, Nat.reduceEqDiff, ↓reduceIte, true_and, and_true]; repeat' (first | rfl | with_reducible refine And.intro ?_ ?_ | omega)) (fun k hk => ?_)
 have sL := sumTo_le (f := fun k => dotG x y k % 55441) (B := 55440) (n := k) (fun x hx => by have := bd x (by omega); omega)
 refine gA ?_
 refine gI (fun hlk => ?_) fun hlk => ?_
 ·have cL := bd k (by omega)
  simp only [dotG] at cL
  refine ats_skip ?_
  (repeat refine ats_seq ?_); refine ats_block ?_
  refine gA ?_
  (repeat refine ats_seq ?_); refine ats_pick (fix0 hcx) mixed (by kernel_rfl) fun K hK => ?_; simp only [go_sem, seval]; (try simp (disch := omega) only [tmP, tdP]); (repeat refine aI (hb := ?_)); refine hK _ ?_; clear hK K
  refine gB ?_
  refine ⟨k + 1,  by omega, by omega, .inl ⟨by simp only [leS, Nat.reduceEqDiff, ↓reduceIte, true_and, and_true]; exact ⟨rfl, by omega⟩,  rfl⟩⟩
 ·obtain rfl : k = n := by omega
  refine ats_exit (lq_x ?_)
  refine gC fun K hK => ?_; (try simp (disch := omega) only [tmP, tdP]); (repeat refine aI (hb := ?_)); refine hK _ ?_; clear hK K
  refine ats_ret (finI rfl ?_)
  unfold dotP
  rw [sum_md]
theorem dwhole_ok (s : List (List Int)) (t : List Int) (hs : Shape s t) : PureCall Tryz.prog 60 [.agg [.l2 s, .l1 t]] (.int (wholeD s t.length)) := by
 have h16 := hs.2.1
 have h1 := hs.1
 have hm := hs.2.2.1
 have ls := hm.1
 have r0 := hm.row (show 0 < t.length by omega)
 have hd : PureCall Tryz.prog 85 [.l1 (s.getD 0 []), .l1 (s.getD 0 [])] (.int (wholeD s t.length)) := dot_ok _ _ t.length (by omega) r0 r0 (fun i hi => hm.inP (by omega) hi) (fun i hi => hm.inP (by omega) hi)
 refine PureCall.intro (n := 12) (rs := [.tmp 2]) Tryz.call60 Tryz.func60 rfl rfl rfl (by simp only [List.length_cons, List.length_nil]; omega) (fun cx hcx => ats_of ?_); simp only [argSlots, Nat.zero_add, Nat.reduceAdd]
 refine gA ?_
 (repeat refine ats_seq ?_); refine ats_pick (fix0 hcx) mixed (by kernel_rfl) fun K hK => ?_; simp only [go_sem, seval]
 (repeat refine aI (hb := ?_))
 first | refine fcall_data (hd) rfl ?_ | refine YR_intro (acall_data (hd) rfl) ?_
 simp only [go_sem, seval]
 refine hK _ ?_; clear hK K
 refine ats_ret (finI rfl ?_)
 rfl
theorem gauss_ok (s : List (List Int)) (t v : List Int) (hs : Shape s t) (hv : v.length = t.length) (hP : ∀ i, i < t.length → InP (v.getD i 0)) : PureCall Tryz.prog 92 [.agg [.l2 s, .l1 t], .l1 v] (.int (gaussD s v t.length)) := by
 have h16 := hs.2.1
 have h1 := hs.1
 have hm := hs.2.2.1
 have ls := hm.1
 have r0 := hm.row (show 0 < t.length by omega)
 have bw : ∀ k, k < t.length → 0 ≤ wG s k ∧ wG s k ≤ 3073593600 := fun k hk => mulP (hm.inP (by omega) hk) (hm.inP (by omega) hk)
 have bd : ∀ k, k < t.length → 0 ≤ gG s v k ∧ gG s v k ≤ 3073593600 := fun k hk => mulP (inP_md _) (hP k hk)
 refine PureCall.intro (n := 33) (rs := [.tmp 4]) Tryz.call92 Tryz.func92 rfl rfl rfl (by simp only [List.length_cons, List.length_nil]; omega) (fun cx hcx => ats_of ?_); simp only [argSlots, Nat.zero_add, Nat.reduceAdd]
 refine gA ?_
 refine gA ?_
 refine gB ?_
 (repeat refine ats_seq ?_); refine ats_loop (fun k : Nat => ⟨[(1, .l1 v), (5, .int (sumTo (fun k => gG s v k % 55441) k)), (11, .l1 (s.getD 0 [])), (12, .int t.length), (13, .int k)], [(0, .bx [.l2 s, .l1 t])]⟩) (fun k => k ≤ t.length) (fun k => t.length - k) 0 (Nat.zero_le _) (by refine And.intro ?_ rfl; simp only [leS, Nat.reduceEqDiff, ↓reduceIte, true_and, and_true]; repeat' (first | rfl | with_reducible refine And.intro ?_ ?_ | omega)) (fun k hk => ?_)
 have sL := sumTo_le (f := fun k => gG s v k % 55441) (B := 55440) (n := k) (fun x hx => by have := bd x (by omega); omega)
 refine gA ?_
 refine gI (fun hlk => ?_) fun hlk => ?_
 ·have cL := bd k (by omega)
  have cW := bw k (by omega)
  simp only [gG, wG, e2] at cL cW
  refine ats_skip ?_
  (repeat refine ats_seq ?_); refine ats_block ?_
  refine gB ?_
  refine gC fun K hK => ?_; (try simp (disch := omega) only [tmP, tdP]); (repeat refine aI (hb := ?_)); refine hK _ ?_; clear hK K
  refine gB ?_
  refine ⟨k + 1,  by omega, by omega, .inl ⟨by simp only [leS, Nat.reduceEqDiff, ↓reduceIte, true_and, and_true]; exact ⟨rfl, by omega⟩,  rfl⟩⟩
 ·obtain rfl : k = t.length := by omega
  refine ats_exit (lq_x ?_)
  refine gC fun K hK => ?_; (try simp (disch := omega) only [tmP, tdP]); (repeat refine aI (hb := ?_)); refine hK _ ?_; clear hK K
  refine ats_ret (finI rfl ?_)
  unfold gaussD
  rw [sum_md]
theorem apply_ok (b : List (List Int)) (v : List Int) (n : Nat) (h1 : 1 ≤ n) (h16 : n ≤ 16) (hb : MatP n b) (hv : v.length = n) (pv : ∀ i, i < n → InP (v.getD i 0)) : FreshCall Tryz.prog 72 [.l2 (turnM b), .l1 v] (.l1 (apL b v n)) := by
 have r0 := hb.row (show 0 < n by omega)
 have lb := hb.1
 have lt := turnM_length b
 have hcol : ∀ j, j < n → (turnM b).getD j [] = rowF n (fun i => e2 b i j) := fun j hj => by rw [turnM_get (by omega), lb]
 refine FreshCall.intro (n := 23) (rs := [.tmp 4]) Tryz.call72 Tryz.func72 rfl rfl rfl (by simp only [List.length_cons, List.length_nil]; omega) (fun cx hcx => ats_of ?_); simp only [argSlots, Nat.zero_add, Nat.reduceAdd]
 refine gA ?_
 refine gA ?_
 refine gA ?_
 (repeat refine ats_seq ?_); refine ats_loop (fun j : Nat => ⟨[(1, .l1 v), (5, .ref 0 []), (9, .l2 (turnM b)), (10, .int n), (11, .int j)], [(0, .t1 ((List.range j).map fun j => sumTo (fun k => v.getD k 0 * e2 b k j) n % 55441))]⟩) (fun j => j ≤ n) (fun j => n - j) 0 (Nat.zero_le _) (by refine And.intro ?_ rfl; simp only [leS, Nat.reduceEqDiff, ↓reduceIte, true_and, and_true]; repeat' (first | rfl | with_reducible refine And.intro ?_ ?_ | omega)) (fun j hj => ?_)
 have hl : ((List.range j).map fun j => sumTo (fun k => v.getD k 0 * e2 b k j) n % 55441).length = j := by simp
 refine gA ?_
 refine gI (fun hlj => ?_) fun hlj => ?_
 ·have hc := hcol j (by omega)
  have hd : PureCall Tryz.prog 85 [.l1 (rowF n fun i => e2 b i j), .l1 v] (.int (sumTo (fun k => v.getD k 0 * e2 b k j) n % 55441)) := by
   rw [← dot_col]
   exact dot_ok _ _ n (by omega) (rowF_length ..) hv (fun i hi => by rw [rowF_get hi]; exact hb.inP hi (by omega)) pv
  refine ats_skip ?_
  (repeat refine ats_seq ?_); refine ats_block ?_
  refine gC fun K hK => ?_
  (repeat refine aI (hb := ?_))
  simp only [hc]
  refine hK _ ?_; clear hK K
  refine gC fun K hK => ?_
  first | refine fcall_data (hd) rfl ?_ | refine YR_intro (acall_data (hd) rfl) ?_
  simp only [go_sem, seval]
  (repeat refine And.intro (by (first | omega | (rw [hl]; omega))) ?_)
  refine hK _ ?_; clear hK K
  refine gB ?_
  refine ⟨j + 1, by omega, by omega, .inr ⟨[1], by simp only [killL, List.map_cons, List.map_nil, killA, killAs, qOf, rmT, killH, killT, List.filter_cons, List.filter_nil, List.contains_cons, List.contains_nil, SlotsLe, St.get, slotGet, Nat.reduceEqDiff, Nat.reduceBEq, Bool.or_false, Bool.or_true, Bool.false_and, Bool.not_true, Bool.not_false, Bool.false_eq_true, ↓reduceIte, if_true, if_false, AV.int.injEq, AV.bool.injEq, AV.l1.injEq, AV.l2.injEq, AV.l3.injEq, true_and, and_true]; omega, by simp only [killL, List.map_cons, List.map_nil, killA, killAs, qOf, rmT, killH, killT, List.filter_cons, List.filter_nil, List.contains_cons, List.contains_nil, SlotsLe, St.get, slotGet, Nat.reduceEqDiff, Nat.reduceBEq, Bool.or_false, Bool.or_true, Bool.false_and, Bool.not_true, Bool.not_false, Bool.false_eq_true, ↓reduceIte, if_true, if_false, AV.int.injEq, AV.bool.injEq, AV.l1.injEq, AV.l2.injEq, AV.l3.injEq, true_and, and_true]; simp only [List.range_succ (n := j), List.map_append, List.map_cons, List.map_nil]⟩⟩
 ·obtain rfl : j = n := by omega
  refine ats_exit (lq_x ?_)
  refine gA ?_
  exact ats_ret (ownV (is := [0]) rfl ⟨rfl, trivial⟩ rfl (by simp))
theorem multiply_ok (a b : List (List Int)) (n : Nat) (h1 : 1 ≤ n) (h16 : n ≤ 16) (ha : MatP n a) (hb : MatP n b) : FreshCall Tryz.prog 44 [.l2 a, .l2 b] (.l2 (mulM a b n)) := by
 have la := ha.1
 have lb := hb.1
 have r0 := hb.row (show 0 < n by omega)
 have hT := transpose_ok b (by omega) (by omega) (by omega) (fun i hi => by rw [hb.row (by omega), r0])
 refine FreshCall.intro (n := 26) (rs := [.tmp 4]) Tryz.call44 Tryz.func44 rfl rfl rfl (by simp only [List.length_cons, List.length_nil]; omega) (fun cx hcx => ats_of ?_); simp only [argSlots, Nat.zero_add, Nat.reduceAdd]
 refine gA ?_
 refine gC fun K hK => ?_
 first | refine fcall_fresh rfl (hT) ?_ | refine YR_intro (acall_fresh rfl (hT)) ?_
 simp only [go_sem, seval]
 refine hK _ ?_; clear hK K
 refine gA ?_
 refine gA ?_
 (repeat refine ats_seq ?_); refine ats_loop (fun i : Nat => ⟨[(5, .l2 (turnM b)), (6, .ref 0 []), (12, .l2 a), (13, .int n), (14, .int i)], [(0, .t2 ((List.range i).map fun i => rowF n fun j => sumTo (pG a b i j) n % 55441))]⟩) (fun i => i ≤ n) (fun i => n - i) 0 (Nat.zero_le _) (by refine And.intro ?_ rfl; simp only [leS, Nat.reduceEqDiff, ↓reduceIte, true_and, and_true]; repeat' (first | rfl | with_reducible refine And.intro ?_ ?_ | omega)) (fun i hi => ?_)
 have hl : ((List.range i).map fun i => rowF n fun j => sumTo (pG a b i j) n % 55441).length = i := by simp
 refine gA ?_
 refine gI (fun hli => ?_) fun hli => ?_
 ·have hA : FreshCall Tryz.prog 72 [.l2 (turnM b), .l1 (a.getD i [])] (.l1 (rowF n fun j => sumTo (pG a b i j) n % 55441)) := apply_ok b (a.getD i []) n h1 h16 hb (ha.row (by omega)) (fun k hk => ha.inP (by omega) hk)
  refine ats_skip ?_
  (repeat refine ats_seq ?_); refine ats_block ?_
  refine gB ?_
  refine gC fun K hK => ?_
  refine fcall_own rfl (hA) rfl ?_; simp only [go_sem, seval]
  (repeat refine And.intro (by (first | omega | (rw [hl]; omega))) ?_)
  refine hK _ ?_; clear hK K
  refine gB ?_
  refine ⟨i + 1,  by omega, by omega, .inl ⟨by simp only [leS, Nat.reduceEqDiff, ↓reduceIte, true_and, and_true]; omega,  by simp only [List.range_succ (n := i), List.map_append, List.map_cons, List.map_nil]⟩⟩
 ·obtain rfl : i = n := by omega
  refine ats_exit (lq_x ?_)
  refine gA ?_
  exact ats_ret (ownV (is := [0]) rfl ⟨rfl, trivial⟩ rfl (by simp))
end Go.Proofs.YtjpdkdepbkmebaaGreat
namespace Go.Proofs.YtjpdkdepbkmebaaGreat
open Go Go.Aw Go.Pl
theorem scale_ok (m : List (List Int)) (g : Int) (n : Nat) (h16 : n ≤ 16) (hm : MatP n m) (hg : InP g) : FreshCall Tryz.prog 91 [.l2 m, .int g] (.l2 (scF m g n)) := by
 have lm := hm.1
 refine FreshCall.intro (n := 39) (rs := [.tmp 4]) Tryz.call91 Tryz.func91 rfl rfl rfl (by simp only [List.length_cons, List.length_nil]; omega) (fun cx hcx => ats_of ?_); simp only [argSlots, Nat.zero_add, Nat.reduceAdd]
 refine gA ?_
 refine gA ?_
 refine gA ?_
 (repeat refine ats_seq ?_); refine ats_loop (fun i : Nat => ⟨[(1, .int g), (5, .ref 0 []), (12, .l2 m), (13, .int n), (14, .int i)], [(0, .t2 ((List.range i).map fun i => rowF n fun j => e2 m i j * g % 55441))]⟩) (fun i => i ≤ n) (fun i => n - i) 0 (Nat.zero_le _) (by refine And.intro ?_ rfl; simp only [leS, Nat.reduceEqDiff, ↓reduceIte, true_and, and_true]; repeat' (first | rfl | with_reducible refine And.intro ?_ ?_ | omega)) (fun i hi => ?_)
 have hl : ((List.range i).map fun i => rowF n fun j => e2 m i j * g % 55441).length = i := by simp
 refine gA ?_
 refine gI (fun hli => ?_) fun hli => ?_
 ·have ri := hm.row (show i < n by omega)
  refine ats_skip ?_
  (repeat refine ats_seq ?_); refine ats_block ?_
  refine gB ?_
  refine gA ?_
  refine gA ?_
  (repeat refine ats_seq ?_); refine ats_loop (fun j : Nat => ⟨[(1, .int g), (5, .ref 0 []), (12, .l2 m), (13, .int n), (14, .int i), (8, .ref 1 []), (19, .l1 (m.getD i [])), (20, .int n), (21, .int j)], [(0, .t2 ((List.range i).map fun i => rowF n fun j => e2 m i j * g % 55441)), (1, .t1 ((List.range j).map fun j => e2 m i j * g % 55441))]⟩) (fun j => j ≤ n) (fun j => n - j) 0 (Nat.zero_le _) (by refine And.intro ?_ rfl; simp only [leS, Nat.reduceEqDiff, ↓reduceIte, true_and, and_true]; repeat' (first | rfl | with_reducible refine And.intro ?_ ?_ | omega)) (fun j hj => ?_)
  have hl2 : ((List.range j).map fun j => e2 m i j * g % 55441).length = j := by simp
  refine gA ?_
  refine gI (fun hlj => ?_) fun hlj => ?_
  ·have mp := mulP (hm.inP (show i < n by omega) (show j < n by omega)) hg
   simp only [e2] at mp
   refine ats_skip ?_
   (repeat refine ats_seq ?_); refine ats_block ?_
   refine gB ?_
   refine gC fun K hK => ?_
   try simp (disch := omega) only [tmP, tdP]
   (repeat refine And.intro (by (first | omega | (rw [hl2]; omega))) ?_)
   refine hK _ ?_; clear hK K
   refine gB ?_
   refine ⟨j + 1, by omega, by omega, .inr ⟨[2], by simp only [killL, List.map_cons, List.map_nil, killA, killAs, qOf, rmT, killH, killT, List.filter_cons, List.filter_nil, List.contains_cons, List.contains_nil, SlotsLe, St.get, slotGet, Nat.reduceEqDiff, Nat.reduceBEq, Bool.or_false, Bool.or_true, Bool.false_and, Bool.not_true, Bool.not_false, Bool.false_eq_true, ↓reduceIte, if_true, if_false, AV.int.injEq, AV.bool.injEq, AV.l1.injEq, AV.l2.injEq, AV.l3.injEq, true_and, and_true]; omega, by simp only [killL, List.map_cons, List.map_nil, killA, killAs, qOf, rmT, killH, killT, List.filter_cons, List.filter_nil, List.contains_cons, List.contains_nil, SlotsLe, St.get, slotGet, Nat.reduceEqDiff, Nat.reduceBEq, Bool.or_false, Bool.or_true, Bool.false_and, Bool.not_true, Bool.not_false, Bool.false_eq_true, ↓reduceIte, if_true, if_false, AV.int.injEq, AV.bool.injEq, AV.l1.injEq, AV.l2.injEq, AV.l3.injEq, true_and, and_true]; simp only [List.range_succ (n := j), List.map_append, List.map_cons, List.map_nil]⟩⟩
  ·obtain rfl : j = n := by omega
   refine ats_exit (lq_x ?_)
   refine gC fun K hK => ?_
   (repeat refine And.intro (by (first | omega | (rw [hl]; omega))) ?_)
   refine hK _ ?_; clear hK K
   refine gB ?_
   refine ⟨i + 1,  by omega, by omega, .inl ⟨by simp only [leS, Nat.reduceEqDiff, ↓reduceIte, true_and, and_true]; omega,  by simp only [List.range_succ (n := i), List.map_append, List.map_cons, List.map_nil]; rfl⟩⟩
 ·obtain rfl : i = n := by omega
  refine ats_exit (lq_x ?_)
  refine gA ?_
  exact ats_ret (ownV (is := [0]) rfl ⟨rfl, trivial⟩ rfl (by simp))
theorem diagonal_ok (v : List Int) (n : Nat) (h16 : n ≤ 16) (hv : v.length = n) : FreshCall Tryz.prog 90 [.l1 v] (.l2 (diF v n)) := by
 refine FreshCall.intro (n := 27) (rs := [.tmp 2]) Tryz.call90 Tryz.func90 rfl rfl rfl (by simp only [List.length_cons, List.length_nil]; omega) (fun cx hcx => ats_of ?_); simp only [argSlots, Nat.zero_add, Nat.reduceAdd]
 refine gA ?_
 refine gC fun K hK => ?_
 simp only [hv]
 refine fcall_own rfl (zeros_ok n n (by omega) (by omega)) rfl ?_; simp only [go_sem, seval]
 refine hK _ ?_; clear hK K
 rw [← diS_zero v n]
 refine gA ?_
 (repeat refine ats_seq ?_); refine ats_loop (fun k : Nat => ⟨[(3, .ref 0 []), (11, .l1 v), (12, .int n), (13, .int k)], [(0, .t2 (diS v n k))]⟩) (fun k => k ≤ n) (fun k => n - k) 0 (Nat.zero_le _) (by refine And.intro ?_ rfl; simp only [leS, Nat.reduceEqDiff, ↓reduceIte, true_and, and_true]; repeat' (first | rfl | with_reducible refine And.intro ?_ ?_ | omega)) (fun k hk => ?_)
 have hl := diS_length v n k
 refine gA ?_
 refine gI (fun hlk => ?_) fun hlk => ?_
 ·have hr := diS_row (v := v) (n := n) (k := k) (show k < n by omega)
  refine ats_skip ?_
  (repeat refine ats_seq ?_); refine ats_block ?_
  refine gB ?_
  refine gC fun K hK => ?_
  simp only [hl, hr]
  (repeat refine aI (hb := ?_))
  refine hK _ ?_; clear hK K
  refine gB ?_
  refine ⟨k + 1,  by omega, by omega, .inl ⟨by simp only [leS, Nat.reduceEqDiff, ↓reduceIte, true_and, and_true]; omega,  by rw [← diS_set (show k < n by omega)]⟩⟩
 ·obtain rfl : k = n := by omega
  refine ats_exit (lq_x ?_)
  refine gA ?_
  exact ats_ret (ownV (is := [0]) rfl ⟨rfl, trivial⟩ (by rw [← diS_all]; rfl) (by simp))
theorem turns_ok (s : List (List Int)) (t : List Int) (hs : Shape s t) : PureCall Tryz.prog 62 [.agg [.l2 s, .l1 t]] (.bool (bd (TurnP s t))) := by
 have h16 := hs.2.1
 have h1 := hs.1
 have hm := hs.2.2.1
 have ht := hs.2.2.2
 have hu := uD_MatP hs
 have k0 := diagonal_ok t t.length h16 rfl
 have k1 : FreshCall Tryz.prog 44 [.l2 s, .l2 (diF t t.length)] (.l2 (uD s t t.length)) := by
  rw [← mul_di]
  exact multiply_ok s (diF t t.length) t.length h1 h16 hm (diF_MatP ht)
 have k2 := multiply_ok (uD s t t.length) (uD s t t.length) t.length h1 h16 hu hu
 have k3 : FreshCall Tryz.prog 44 [.l2 (mulM (uD s t t.length) (uD s t t.length) t.length), .l2 (uD s t t.length)] (.l2 (cubeD s t t.length)) := multiply_ok _ _ t.length h1 h16 (mulM_MatP ..) hu
 have k4 : FreshCall Tryz.prog 44 [.l2 s, .l2 s] (.l2 (sqD s t.length)) := multiply_ok s s t.length h1 h16 hm hm
 have k5 := gauss_ok s t t hs rfl ht
 have k6 := scale_ok (sqD s t.length) (gaussD s t t.length) t.length h16 (mulM_MatP ..) (inP_md _)
 have k7 := equalRows_ok (cubeD s t t.length) (scF (sqD s t.length) (gaussD s t t.length) t.length)
 refine PureCall.intro (n := 26) (rs := [.tmp 2]) Tryz.call62 Tryz.func62 rfl rfl rfl (by simp only [List.length_cons, List.length_nil]; omega) (fun cx hcx => ats_of ?_); simp only [argSlots, Nat.zero_add, Nat.reduceAdd]
 refine gA ?_
 (repeat refine ats_seq ?_); refine ats_pick (fix0 hcx) mixed (by kernel_rfl) fun K hK => ?_; simp only [go_sem, seval]
 first | refine fcall_fresh rfl (k0) ?_ | refine YR_intro (acall_fresh rfl (k0)) ?_
 simp only [go_sem, seval]
 first | refine fcall_fresh rfl (k1) ?_ | refine YR_intro (acall_fresh rfl (k1)) ?_
 simp only [go_sem, seval]
 refine hK _ ?_; clear hK K
 (repeat refine ats_seq ?_); refine ats_pick (fix0 hcx) mixed (by kernel_rfl) fun K hK => ?_; simp only [go_sem, seval]
 first | refine fcall_fresh rfl (k2) ?_ | refine YR_intro (acall_fresh rfl (k2)) ?_
 simp only [go_sem, seval]
 first | refine fcall_fresh rfl (k3) ?_ | refine YR_intro (acall_fresh rfl (k3)) ?_
 simp only [go_sem, seval]
 first | refine fcall_fresh rfl (k4) ?_ | refine YR_intro (acall_fresh rfl (k4)) ?_
 simp only [go_sem, seval]
 first | refine fcall_data (k5) rfl ?_ | refine YR_intro (acall_data (k5) rfl) ?_
 simp only [go_sem, seval]
 first | refine fcall_fresh rfl (k6) ?_ | refine YR_intro (acall_fresh rfl (k6)) ?_
 simp only [go_sem, seval]
 first | refine fcall_data (k7) rfl ?_ | refine YR_intro (acall_data (k7) rfl) ?_
 simp only [go_sem, seval]
 refine hK _ ?_; clear hK K
 refine ats_ret (finB rfl ?_)
 by_cases h : TurnP s t
 ·rw [bd_true h, decide_eq_true ((turn_iff s t).2 h)]
 ·rw [bd_false h, decide_eq_false (fun e => h ((turn_iff s t).1 e))]
theorem sIndex_ok (xs : List Int) (x : Int) : PureCall Tryz.prog 101 [.l1 xs, .int x] (.int (fidx (fun y => decide (y = x)) xs)) := by
 refine PureCall.intro (n := 19) (rs := [.tmp 4]) Tryz.call101 Tryz.func101 rfl rfl rfl (by simp only [List.length_cons, List.length_nil]; omega) (fun cx hcx => ats_of ?_); simp only [argSlots, Nat.zero_add, Nat.reduceAdd]
 refine gA ?_
 refine ats_know 0 fun h0 => ?_; simp only [St.get, slotGet, Nat.reduceEqDiff, ↓reduceIte, if_true, fact, facts] at h0
 have hlen := h0.1
 refine gA ?_
 (repeat refine ats_seq ?_); refine ats_loop (fun k : Nat => ⟨[(0, .l1 xs), (1, .int x), (7, .int xs.length), (8, .int k)], []⟩) (fun k => k ≤ xs.length ∧ ∀ b, b < k → decide (xs.getD b 0 = x) = false) (fun k => xs.length - k) 0 ⟨Nat.zero_le _, fun a h => absurd h (Nat.not_lt_zero a)⟩ (by refine And.intro ?_ rfl; simp only [leS, Nat.reduceEqDiff, ↓reduceIte, true_and, and_true]; rfl) (fun k hk => ?_); obtain ⟨hk, Hk⟩ := hk
 refine gA ?_
 refine gI (fun hlk => ?_) fun hlk => ?_
 ·refine ats_skip ?_
  (repeat refine ats_seq ?_); refine ats_block ?_
  refine gA ?_
  refine gB ?_
  refine gI (fun h6 => ?_) fun h6 => ?_
  ·refine gA ?_
   refine ats_ret (finI rfl ?_)
   exact (fidx_some (d := 0) (show k < xs.length by omega) Hk (decide_eq_true h6.symm)).symm
  ·refine ats_skip ?_
   refine gB ?_
   refine ⟨k + 1, ⟨by omega, fun a ha => by rcases Nat.lt_succ_iff_lt_or_eq.1 ha with h | rfl; exact Hk a h; exact decide_eq_false (fun e => h6 e.symm)⟩, by omega, .inl ⟨?_, rfl⟩⟩; simp only [leS, Nat.reduceEqDiff, ↓reduceIte, true_and, and_true]; omega
 ·refine ats_exit (lq_x ?_)
  refine gA ?_
  refine ats_ret (finI rfl ?_)
  exact (fidx_none (d := 0) (fun i hi => Hk i (by omega))).symm
theorem sContains_ok (xs : List Int) (x : Int) : PureCall Tryz.prog 84 [.l1 xs, .int x] (.bool (xs.any fun y => decide (y = x))) := by
 refine PureCall.intro (n := 9) (rs := [.tmp 4]) Tryz.call84 Tryz.func84 rfl rfl rfl (by simp only [List.length_cons, List.length_nil]; omega) (fun cx hcx => ats_of ?_); simp only [argSlots, Nat.zero_add, Nat.reduceAdd]
 refine gA ?_
 refine gC fun K hK => ?_
 first | refine fcall_free rfl rfl (sIndex_ok xs x) ?_ | refine YR_intro (acall_free rfl rfl (sIndex_ok xs x)) ?_
 simp only [go_sem, seval]
 refine hK _ ?_; clear hK K
 refine ats_ret (finB rfl ?_)
 exact fidx_any
theorem nIndex_ok (xs : List Int) (x : Int) : PureCall Tryz.prog 102 [.l1 xs, .int x] (.int (fidx (fun y => decide (y = x)) xs)) := by
 refine PureCall.intro (n := 19) (rs := [.tmp 4]) Tryz.call102 Tryz.func102 rfl rfl rfl (by simp only [List.length_cons, List.length_nil]; omega) (fun cx hcx => ats_of ?_); simp only [argSlots, Nat.zero_add, Nat.reduceAdd]
 refine gA ?_
 refine ats_know 0 fun h0 => ?_; simp only [St.get, slotGet, Nat.reduceEqDiff, ↓reduceIte, if_true, fact, facts] at h0
 have hlen := h0.1
 refine gA ?_
 (repeat refine ats_seq ?_); refine ats_loop (fun k : Nat => ⟨[(0, .l1 xs), (1, .int x), (7, .int xs.length), (8, .int k)], []⟩) (fun k => k ≤ xs.length ∧ ∀ b, b < k → decide (xs.getD b 0 = x) = false) (fun k => xs.length - k) 0 ⟨Nat.zero_le _, fun a h => absurd h (Nat.not_lt_zero a)⟩ (by refine And.intro ?_ rfl; simp only [leS, Nat.reduceEqDiff, ↓reduceIte, true_and, and_true]; rfl) (fun k hk => ?_); obtain ⟨hk, Hk⟩ := hk
 refine gA ?_
 refine gI (fun hlk => ?_) fun hlk => ?_
 ·refine ats_skip ?_
  (repeat refine ats_seq ?_); refine ats_block ?_
  refine gA ?_
  refine gB ?_
  refine gI (fun h6 => ?_) fun h6 => ?_
  ·refine gA ?_
   refine ats_ret (finI rfl ?_)
   exact (fidx_some (d := 0) (show k < xs.length by omega) Hk (decide_eq_true h6.symm)).symm
  ·refine ats_skip ?_
   refine gB ?_
   refine ⟨k + 1, ⟨by omega, fun a ha => by rcases Nat.lt_succ_iff_lt_or_eq.1 ha with h | rfl; exact Hk a h; exact decide_eq_false (fun e => h6 e.symm)⟩, by omega, .inl ⟨?_, rfl⟩⟩; simp only [leS, Nat.reduceEqDiff, ↓reduceIte, true_and, and_true]; omega
 ·refine ats_exit (lq_x ?_)
  refine gA ?_
  refine ats_ret (finI rfl ?_)
  exact (fidx_none (d := 0) (fun i hi => Hk i (by omega))).symm
theorem nContains_ok (xs : List Int) (x : Int) : PureCall Tryz.prog 89 [.l1 xs, .int x] (.bool (xs.any fun y => decide (y = x))) := by
 refine PureCall.intro (n := 9) (rs := [.tmp 4]) Tryz.call89 Tryz.func89 rfl rfl rfl (by simp only [List.length_cons, List.length_nil]; omega) (fun cx hcx => ats_of ?_); simp only [argSlots, Nat.zero_add, Nat.reduceAdd]
 refine gA ?_
 refine gC fun K hK => ?_
 first | refine fcall_free rfl rfl (nIndex_ok xs x) ?_ | refine YR_intro (acall_free rfl rfl (nIndex_ok xs x)) ?_
 simp only [go_sem, seval]
 refine hK _ ?_; clear hK K
 refine ats_ret (finB rfl ?_)
 exact fidx_any
theorem isStart_ok (s : List (List Int)) (t : List Int) (hs : Shape s t) : PureCall Tryz.prog 59 [.agg [.l2 s, .l1 t]] (.bool (bd (StartP s t))) := by
 have h16 := hs.2.1
 have h1 := hs.1
 have hm := hs.2.2.1
 have ls := hm.1
 have r0 := hm.row (show 0 < t.length by omega)
 have hT := transpose_ok s (by omega) (by omega) (by omega) (fun i hi => by rw [hm.row (by omega), r0])
 have k1 := sContains_ok (s.getD 0 []) 0
 have k2 := sContains_ok t 0
 refine PureCall.intro (n := 39) (rs := [.tmp 2]) Tryz.call59 Tryz.func59 rfl rfl rfl (by simp only [List.length_cons, List.length_nil]; omega) (fun cx hcx => ats_of ?_); simp only [argSlots, Nat.zero_add, Nat.reduceAdd]
 refine gA ?_
 (repeat refine ats_seq ?_); refine ats_pick (fix0 hcx) mixed (by kernel_rfl) fun K hK => ?_; simp only [go_sem, seval]
 first | refine fcall_fresh rfl (hT) ?_ | refine YR_intro (acall_fresh rfl (hT)) ?_
 simp only [go_sem, seval]
 first | refine fcall_data (equalRows_ok s (turnM s)) rfl ?_ | refine YR_intro (acall_data (equalRows_ok s (turnM s)) rfl) ?_
 simp only [go_sem, seval]
 (repeat refine aI (hb := ?_))
 first | refine YR_intro (fun _ => acall_data (k1) rfl) ?_ | refine YR_intro (acall_data (k1) rfl) ?_
 simp only [go_sem, seval]
 first | refine YR_intro (fun _ => acall_data (k2) rfl) ?_ | refine YR_intro (acall_data (k2) rfl) ?_
 simp only [go_sem, seval]
 refine hK _ ?_; clear hK K
 refine ats_ret (finB rfl ?_)
 by_cases h : StartP s t
 ·rw [bd_true h]
  obtain ⟨⟨⟨⟨e1, e2⟩, e3⟩, e4⟩, e5⟩ := (start_iff hs).1 h
  simp only [e4, e5, decide_eq_true e1]
  simp only [e2, e3, decide_true, Bool.not_false, Bool.and_true]
 ·rw [bd_false h]
  refine Bool.eq_false_iff.2 (fun hh => ?_)
  simp only [Bool.and_eq_true, decide_eq_true_eq, Bool.not_eq_true'] at hh
  exact h ((start_iff hs).2 hh)
theorem conj1_ok (x : Int) : PureCall Tryz.prog 87 [.int x] (.bool (!decide (x = 0))) := by
 refine PureCall.intro (n := 5) (rs := [.tmp 2]) Tryz.call87 Tryz.func87 rfl rfl rfl (by simp only [List.length_cons, List.length_nil]; omega) (fun cx hcx => ats_of ?_); simp only [argSlots, Nat.zero_add, Nat.reduceAdd]
 refine gA ?_
 refine gA ?_
 refine ats_ret (finB rfl ?_)
 rfl
theorem conj2_ok (x : Int) : PureCall Tryz.prog 88 [.int x] (.bool (!decide (x = 0))) := by
 refine PureCall.intro (n := 5) (rs := [.tmp 2]) Tryz.call88 Tryz.func88 rfl rfl rfl (by simp only [List.length_cons, List.length_nil]; omega) (fun cx hcx => ats_of ?_); simp only [argSlots, Nat.zero_add, Nat.reduceAdd]
 refine gA ?_
 refine gA ?_
 refine ats_ret (finB rfl ?_)
 rfl
theorem conjugation_ok (s : List (List Int)) (t : List Int) (hs : Shape s t) : FreshCall Tryz.prog 61 [.agg [.l2 s, .l1 t]] (optA (cj s t)) := by
 have h16 := hs.2.1
 have h1 := hs.1
 have hm := hs.2.2.1
 have ls := hm.1
 have hW := dwhole_ok s t hs
 have hT : FreshCall Tryz.prog 44 [.l2 s, .l2 s] (.l2 (sqD s t.length)) := multiply_ok s s t.length h1 h16 hm hm
 have lq : (sqD s t.length).length = t.length := (mulM_MatP s s t.length).1
 refine FreshCall.intro (n := 72) (rs := [.tmp 2]) Tryz.call61 Tryz.func61 rfl rfl rfl (by simp only [List.length_cons, List.length_nil]; omega) (fun cx hcx => ats_of ?_); simp only [argSlots, Nat.zero_add, Nat.reduceAdd]
 refine gA ?_
 (repeat refine ats_seq ?_); refine ats_pickP [0, 1, 2, 3, 4, 5, 6, 8, 9, 7, 10] (fix0 hcx) mixed (by kernel_rfl) fun K hK => ?_; simp only [pickL, pickO, List.map_cons, List.map_nil, List.getElem?_toArray, List.getElem?_cons_zero, List.getElem?_cons_succ, Option.getD_some]; simp only [go_sem, seval]
 first | refine fcall_data (hW) rfl ?_ | refine YR_intro (acall_data (hW) rfl) ?_
 simp only [go_sem, seval]
 first | refine fcall_fresh rfl (hT) ?_ | refine YR_intro (acall_fresh rfl (hT)) ?_
 simp only [go_sem, seval]
 refine hK _ ?_; clear hK K
 refine gC fun K hK => ?_
 simp only [lq]
 refine hK _ ?_; clear hK K
 (repeat refine ats_seq ?_); refine ats_loop (fun i : Nat => ⟨[(1, .bptr 0 0), (3, .int (wholeD s t.length)), (5, .ref 1 []), (17, .l2 (sqD s t.length)), (18, .int t.length), (19, .int i)], [(0, .bx [.l2 s, .l1 t]), (1, .t1 ((List.range i).map (cI s t.length)))]⟩) (fun i => i ≤ t.length ∧ ∀ b, b < i → StepOk s t b) (fun i => t.length - i) 0 ⟨Nat.zero_le _, fun a h => absurd h (Nat.not_lt_zero a)⟩ (by refine And.intro ?_ rfl; simp only [leS, Nat.reduceEqDiff, ↓reduceIte, true_and, and_true]; rfl) (fun i hi => ?_); obtain ⟨hi, Hi⟩ := hi
 have hl : ((List.range i).map (cI s t.length)).length = i := by simp
 refine gA ?_
 refine gI (fun hli => ?_) fun hli => ?_
 ·have rq := sq_row (s := s) (show i < t.length by omega)
  have al := cI_lt (s := s) (show i < t.length by omega)
  have hix : PureCall Tryz.prog 86 [.l1 ((sqD s t.length).getD i []), .fn 87 []] (.int (cI s t.length i)) := indexF1_ok _ 87 [] (fun x => !decide (x = 0)) rfl (fun x => conj1_ok x)
  have hcf : PureCall Tryz.prog 67 [.l1 ((((sqD s t.length).getD i []).take ((sqD s t.length).getD i []).length).drop (cI s t.length i + 1).toNat), .fn 88 []] (.bool (((((sqD s t.length).getD i []).take ((sqD s t.length).getD i []).length).drop (cI s t.length i + 1).toNat).any fun x => !decide (x = 0))) := containsF1_ok _ 88 [] (fun x => !decide (x = 0)) rfl (fun x => conj2_ok x)
  have gi := good_iff (s := s) (show i < t.length by omega)
  have hH := nContains_ok ((List.range i).map (cI s t.length)) (cI s t.length i)
  have hdr : 0 ≤ cI s t.length i → (((sqD s t.length).getD i []).take ((sqD s t.length).getD i []).length).drop (cI s t.length i + 1).toNat = ((sqD s t.length).getD i []).drop ((cI s t.length i).toNat + 1) := fun h => by
   rw [List.take_length, show (cI s t.length i + 1).toNat = (cI s t.length i).toNat + 1 by omega]
  refine ats_skip ?_
  (repeat refine ats_seq ?_); refine ats_block ?_
  refine gB ?_
  refine gC fun K hK => ?_
  first | refine fcall_data (hix) rfl ?_ | refine YR_intro (acall_data (hix) rfl) ?_
  simp only [go_sem, seval]
  refine hK _ ?_; clear hK K
  refine gC fun K hK => ?_
  (repeat refine aI (hb := ?_))
  first | refine YR_intro (fun _ => acall_data (hcf) rfl) ?_ | refine YR_intro (acall_data (hcf) rfl) ?_
  simp only [go_sem, seval]
  refine hK _ ?_; clear hK K
  refine gI (fun h2 => ?_) fun h2 => ?_
  ·simp only [Bool.or_eq_true, Bool.not_eq_true', decide_eq_false_iff_not, decide_eq_true_eq] at h2
   have e : cj s t = none := cj_none_st (i := i) (by omega) (fun h => by
    obtain ⟨g1, g2, g3⟩ := gi.1 h.1
    rcases h2 with (h2 | h2) | h2
    ·omega
    ·exact h2 g2
    ·rw [hdr g1, g3] at h2; cases h2)
   refine gA ?_
   exact ats_ret (ownV (is := []) rfl ⟨rfl, trivial⟩ (by rw [e]; rfl) (by simp))
  ·simp only [Bool.or_eq_false_iff, Bool.not_eq_false', decide_eq_false_iff_not, decide_eq_true_eq] at h2
   have c0 : 0 ≤ cI s t.length i := by omega
   have hg : Pl.Good s t.length i := gi.2 ⟨c0, h2.1.2, by rw [← hdr c0]; exact h2.2⟩
   refine ats_skip ?_
   (repeat refine ats_seq ?_); refine ats_pick (fix0 hcx) mixed (by kernel_rfl) fun K hK => ?_; simp only [go_sem, seval]
   (repeat refine aI (hb := ?_))
   first | refine fcall_free rfl rfl (hH) ?_ | refine YR_intro (acall_free rfl rfl (hH)) ?_
   simp only [go_sem, seval]
   (repeat refine aI (hb := ?_))
   refine hK _ ?_; clear hK K
   refine gI (fun h3 => ?_) fun h3 => ?_
   ·simp only [Bool.or_eq_true, Bool.not_eq_true', decide_eq_false_iff_not, decide_eq_true_eq] at h3
    have e : cj s t = none := cj_none_st (i := i) (by omega) (fun h => by
     rcases h3 with (h3 | h3) | h3
     ·obtain ⟨j, hj, e⟩ := any_cI.1 h3
      exact h.2.1 j hj e
     ·exact h3 h.2.2.1
     ·have := h.2.2.2
      by_cases hi0 : i = 0
      ·simp [hi0, this.1 hi0] at h3
       rw [hi0] at this
       have h7 := this.1 rfl
       simp [h7] at h3
      ·have h8 : ¬ cI s t.length i = 0 := fun e => hi0 (this.2 e)
       simp [hi0, h8] at h3)
    refine gA ?_
    exact ats_ret (ownV (is := []) rfl ⟨rfl, trivial⟩ (by rw [e]; rfl) (by simp))
   ·simp only [Bool.or_eq_false_iff, Bool.not_eq_false', decide_eq_false_iff_not, decide_eq_true_eq] at h3
    have hd : ∀ j, j < i → cI s t.length j ≠ cI s t.length i := fun j hj e => by
     have := any_cI.2 ⟨j, hj, e⟩
     rw [h3.1.1] at this
     cases this
    have hz : i = 0 ↔ cI s t.length i = 0 := by
     have h4 := h3.2
     simp only [beq_iff_eq, decide_eq_decide] at h4
     omega
    have hst : StepOk s t i := ⟨hg, hd, h3.1.2, hz⟩
    refine ats_skip ?_
    refine gC fun K hK => ?_
    (repeat refine And.intro (by (first | omega | (rw [hl]; omega))) ?_)
    refine hK _ ?_; clear hK K
    refine gB ?_
    refine ⟨i + 1, ⟨by omega, fun a ha => by rcases Nat.lt_succ_iff_lt_or_eq.1 ha with h | rfl; exact Hi a h; exact hst⟩, by omega, .inr ⟨[2], by simp only [killL, List.map_cons, List.map_nil, killA, killAs, qOf, rmT, killH, killT, List.filter_cons, List.filter_nil, List.contains_cons, List.contains_nil, SlotsLe, St.get, slotGet, Nat.reduceEqDiff, Nat.reduceBEq, Bool.or_false, Bool.or_true, Bool.false_and, Bool.not_true, Bool.not_false, Bool.false_eq_true, ↓reduceIte, if_true, if_false, AV.int.injEq, AV.bool.injEq, AV.l1.injEq, AV.l2.injEq, AV.l3.injEq, true_and, and_true]; omega, by simp only [killL, List.map_cons, List.map_nil, killA, killAs, qOf, rmT, killH, killT, List.filter_cons, List.filter_nil, List.contains_cons, List.contains_nil, SlotsLe, St.get, slotGet, Nat.reduceEqDiff, Nat.reduceBEq, Bool.or_false, Bool.or_true, Bool.false_and, Bool.not_true, Bool.not_false, Bool.false_eq_true, ↓reduceIte, if_true, if_false, AV.int.injEq, AV.bool.injEq, AV.l1.injEq, AV.l2.injEq, AV.l3.injEq, true_and, and_true]; simp only [List.range_succ, List.map_append, List.map_cons, List.map_nil]⟩⟩
 ·obtain rfl : i = t.length := by omega
  have e : cj s t = some (cL s t.length) := cj_some_st (fun i hi => Hi i (by omega))
  refine ats_exit (lq_x ?_)
  refine gA ?_
  exact ats_ret (ownV (is := [1]) rfl ⟨rfl, trivial⟩ (by rw [e]; rfl) (by simp))
end Go.Proofs.YtjpdkdepbkmebaaGreat
namespace Go.Proofs.YtjpdkdepbkmebaaGreat
open Go Go.Aw Go.Pl
attribute [local go_sem] pl_fin pl_stop pl_one pl_alt PK_ap pickO List.getElem?_toArray List.getElem?_cons_zero List.getElem?_cons_succ
theorem inversesOf_ok (xs : List Int) (h16 : xs.length ≤ 16) (hP : ∀ i, i < xs.length → InP (xs.getD i 0)) : FreshCall Tryz.prog 94 [.l1 xs] (.l1 (ivF xs)) := by
 refine FreshCall.intro (n := 20) (rs := [.tmp 2]) Tryz.call94 Tryz.func94 rfl rfl rfl (by simp only [List.length_cons, List.length_nil]; omega) (fun cx hcx => ats_of ?_); simp only [argSlots, Nat.zero_add, Nat.reduceAdd]
 refine gA ?_
 refine ats_know 0 fun h0 => ?_; simp only [St.get, slotGet, Nat.reduceEqDiff, ↓reduceIte, if_true, fact, facts] at h0
 have hlen := h0.1
 refine gA ?_
 refine gA ?_
 (repeat refine ats_seq ?_); refine ats_loop (fun i : Nat => ⟨[(3, .ref 0 []), (7, .l1 xs), (8, .int xs.length), (9, .int i)], [(0, .t1 ((xs.take i).map fun x => 1 * inv x % 55441))]⟩) (fun i => i ≤ xs.length) (fun i => xs.length - i) 0 (Nat.zero_le _) (by refine And.intro ?_ rfl; simp only [leS, Nat.reduceEqDiff, ↓reduceIte, true_and, and_true]; repeat' (first | rfl | with_reducible refine And.intro ?_ ?_ | omega)) (fun i hi => ?_)
 have hl : ((xs.take i).map fun x => 1 * inv x % 55441).length = i := by rw [List.length_map, List.length_take]; omega
 refine gA ?_
 refine gI (fun hli => ?_) fun hli => ?_
 ·have hp : InP (xs.getD i 0) := hP i (by omega)
  refine ats_skip ?_
  (repeat refine ats_seq ?_); refine ats_block ?_
  refine gB ?_
  refine gC fun K hK => ?_
  first | refine fcall_data (divide_ok 1 _ ⟨by omega, by omega⟩ hp) rfl ?_ | refine YR_intro (acall_data (divide_ok 1 _ ⟨by omega, by omega⟩ hp) rfl) ?_
  simp only [go_sem, seval]
  rw [hl]
  (repeat refine aI (hb := ?_))
  refine hK _ ?_; clear hK K
  refine gB ?_
  refine ⟨i + 1, by omega, by omega, .inr ⟨[1], by simp only [killL, List.map_cons, List.map_nil, killA, killAs, qOf, rmT, killH, killT, List.filter_cons, List.filter_nil, List.contains_cons, List.contains_nil, SlotsLe, St.get, slotGet, Nat.reduceEqDiff, Nat.reduceBEq, Bool.or_false, Bool.or_true, Bool.false_and, Bool.not_true, Bool.not_false, Bool.false_eq_true, ↓reduceIte, if_true, if_false, AV.int.injEq, AV.bool.injEq, AV.l1.injEq, AV.l2.injEq, AV.l3.injEq, true_and, and_true]; omega, by simp only [killL, List.map_cons, List.map_nil, killA, killAs, qOf, rmT, killH, killT, List.filter_cons, List.filter_nil, List.contains_cons, List.contains_nil, SlotsLe, St.get, slotGet, Nat.reduceEqDiff, Nat.reduceBEq, Bool.or_false, Bool.or_true, Bool.false_and, Bool.not_true, Bool.not_false, Bool.false_eq_true, ↓reduceIte, if_true, if_false, AV.int.injEq, AV.bool.injEq, AV.l1.injEq, AV.l2.injEq, AV.l3.injEq, true_and, and_true]; rw [take_map_succ (show i < xs.length by omega)]⟩⟩
 ·obtain rfl : i = xs.length := by omega
  refine ats_exit (lq_x ?_)
  rw [List.take_length]
  refine gA ?_
  exact ats_ret (ownV (is := [0]) rfl ⟨rfl, trivial⟩ rfl (by simp))
theorem emptyCube_ok (n : Nat) (h1 : 1 ≤ n) (h16 : n ≤ 16) : FreshCall Tryz.prog 93 [.int n] (.agg [.l3 (List.replicate n (List.replicate n (List.replicate n 0)))]) := by
 refine FreshCall.intro (n := 18) (rs := [.cell 2 68]) Tryz.call93 Tryz.func93 rfl rfl rfl (by simp only [List.length_cons, List.length_nil]; omega) (fun cx hcx => ats_of ?_); simp only [argSlots, Nat.zero_add, Nat.reduceAdd]
 refine gA ?_
 refine gA ?_
 refine gA ?_
 (repeat refine ats_seq ?_)
 refine ats_loop (fun o : Option Nat => match o with
  | none => ⟨[(6, .int 0), (5, .int n), (3, .bptr 1 0), (2, .bptr 0 0), (0, .int n)], [(0, .bx [.nil]), (1, .bx [.nil])]⟩
  | some i => ⟨[(6, .int i), (5, .int n), (3, .bptr 1 0), (2, .bptr 0 0), (0, .int n)], [(0, .bx [.nil]), (1, .bx [.ref 4 []]), (4, .t3 (List.replicate i (List.replicate n (List.replicate n 0))))]⟩) (fun o => match o with
  | none => True
  | some i => 1 ≤ i ∧ i ≤ n) (fun o => match o with
  | none => n + 1
  | some i => n - i) none trivial ⟨by simp only [SlotsLe, St.get, slotGet, Nat.reduceEqDiff, ↓reduceIte, true_and, and_true], rfl⟩ (fun o ho => ?_)
 cases o with
 | none =>
  dsimp only at ho ⊢
  refine gA ?_
  refine gI (fun hli => ?_) fun hli => ?_
  ·refine ats_skip ?_
   (repeat refine ats_seq ?_); refine ats_block ?_
   (repeat refine ats_seq ?_)
   refine ats_plan [4] (.one 2 (.one 3 (.alt 0 (.alt 1 (.alt 4 (.alt 5 (.alt 6 (.one 7 (.alt 8 .fin .stop)) .stop) .stop) .stop) (.alt 4 (.alt 1 (.alt 5 (.alt 6 (.one 7 (.alt 8 .fin .stop)) .stop) .stop) (.alt 5 (.one 1 (.alt 6 (.one 7 (.alt 8 .fin .stop)) .stop)) .stop)) .stop)) (.alt 4 (.alt 0 (.alt 1 (.alt 5 (.alt 6 (.one 7 (.alt 8 .fin .stop)) .stop) .stop) (.alt 5 (.one 1 (.alt 6 (.one 7 (.alt 8 .fin .stop)) .stop)) .stop)) (.alt 5 (.one 0 (.one 1 (.alt 6 (.one 7 (.alt 8 .fin .stop)) .stop))) .stop)) .stop)))) ⟨[(6, .int 0), (5, .int n), (3, .bptr 1 0), (2, .bptr 0 0), (0, .int n)], [(0, .bx [.nil]), (1, .bx [.ref 4 []]), (4, .t3 [List.replicate n (List.replicate n 0)])]⟩ (fix0 hcx) mixed (by kernel_rfl) (fun K hK => ?_) ?_
   ·simp only [go_sem, seval, Option.getD_some, and_true, true_and, and_self, List.contains_cons, List.contains_nil, Bool.or_false, Bool.or_true]
    repeat' (first | exact hK _ (by refine And.intro ?_ rfl; simp only [leS, Nat.reduceEqDiff, ↓reduceIte, true_and, and_true])  | with_reducible refine And.intro ?_ ?_ | omega | (refine fcall_own rfl (zeros_ok n n (by omega) (by omega)) rfl ?_; simp only [go_sem, seval, Option.getD_some, and_true, true_and, and_self, List.contains_cons, List.contains_nil, Bool.or_false, Bool.or_true]))
   refine gB ?_
   refine ⟨some 1, ⟨Nat.le_refl _, by omega⟩, by show n - 1 < n + 1; omega, .inl ⟨?_, rfl⟩⟩
   simp only [SlotsLe, St.get, slotGet, Nat.reduceEqDiff, ↓reduceIte, AV.int.injEq, true_and, and_true]
   omega
  ·omega
 | some i =>
  dsimp only at ho ⊢
  have hl : (List.replicate i (List.replicate n (List.replicate n (0 : Int)))).length = i := List.length_replicate
  refine gA ?_
  refine gI (fun hli => ?_) fun hli => ?_
  ·refine ats_skip ?_
   (repeat refine ats_seq ?_); refine ats_block ?_
   (repeat refine ats_seq ?_)
   refine ats_plan [4] (.one 2 (.one 3 (.alt 0 (.alt 1 (.alt 4 (.alt 5 (.alt 6 (.one 7 (.alt 8 .fin .stop)) .stop) .stop) .stop) (.alt 4 (.alt 1 (.alt 5 (.alt 6 (.one 7 (.alt 8 .fin .stop)) .stop) .stop) (.alt 5 (.one 1 (.alt 6 (.one 7 (.alt 8 .fin .stop)) .stop)) .stop)) .stop)) (.alt 4 (.alt 0 (.alt 1 (.alt 5 (.alt 6 (.one 7 (.alt 8 .fin .stop)) .stop) .stop) (.alt 5 (.one 1 (.alt 6 (.one 7 (.alt 8 .fin .stop)) .stop)) .stop)) (.alt 5 (.one 0 (.one 1 (.alt 6 (.one 7 (.alt 8 .fin .stop)) .stop))) .stop)) .stop)))) ⟨[(6, .int i), (5, .int n), (3, .bptr 1 0), (2, .bptr 0 0), (0, .int n)], [(0, .bx [.nil]), (1, .bx [.ref 4 []]), (4, .t3 (List.replicate i (List.replicate n (List.replicate n 0)) ++ [List.replicate n (List.replicate n 0)]))]⟩ (fix0 hcx) mixed (by kernel_rfl) (fun K hK => ?_) ?_
   ·simp only [go_sem, seval, Option.getD_some, and_true, true_and, and_self, List.contains_cons, List.contains_nil, Bool.or_false, Bool.or_true]
    repeat' (first | exact hK _ (by refine And.intro ?_ rfl; simp only [leS, Nat.reduceEqDiff, ↓reduceIte, true_and, and_true])  | with_reducible refine And.intro ?_ ?_ | omega | (refine fcall_own rfl (zeros_ok n n (by omega) (by omega)) rfl ?_; simp only [go_sem, seval, Option.getD_some, and_true, true_and, and_self, List.contains_cons, List.contains_nil, Bool.or_false, Bool.or_true]) | ((rw [hl]; omega)))
   refine gB ?_
   refine ⟨some (i + 1), ⟨by omega, by omega⟩, by show n - (i + 1) < n - i; omega, .inl ⟨?_, by simp only [List.replicate_succ']⟩⟩
   simp only [SlotsLe, St.get, slotGet, Nat.reduceEqDiff, ↓reduceIte, AV.int.injEq, true_and, and_true]
   omega
  ·obtain rfl : i = n := by omega
   refine ats_exit (lq_x ?_)
   refine gA ?_
   exact ats_ret (ownC (v := .agg [.ref 4 []]) (by simp only [go_sem, seval]) rfl (by simp))
set_option maxHeartbeats 8000000 in
theorem fusion_ok (s : List (List Int)) (t c : List Int) (hs : Shape s t) (hc : c.length = t.length) (hC : ∀ k, k < t.length → 0 ≤ c.getD k 0 ∧ c.getD k 0 < t.length) : FreshCall Tryz.prog 63 [.agg [.l2 s, .l1 t], .l1 c] (.tup [.agg [.l3 (numD s t.length c)], .bool (bd (Cube (numD s t.length c)))]) := by
 have h16 := hs.2.1
 have h1 := hs.1
 have hm := hs.2.2.1
 have ls := hm.1
 have r0 := hm.row (show 0 < t.length by omega)
 have hI := inversesOf_ok (s.getD 0 []) (by omega) (fun i hi => hm.inP (by omega) (by omega))
 have li : (ivF (s.getD 0 [])).length = t.length := by rw [ivF_length, r0]
 have hw : InP (wholeD s t.length) := inP_md _
 have hr := isCube_ok (numD s t.length c)
 refine FreshCall.intro (n := 105) (rs := [.cell 4 68, .tmp 5]) Tryz.call63 Tryz.func63 rfl rfl rfl (by simp only [List.length_cons, List.length_nil]; omega) (fun cx hcx => ats_of ?_); simp only [argSlots, Nat.zero_add, Nat.reduceAdd]
 refine gA ?_
 (repeat refine ats_seq ?_)
 refine ats_plan2 [3] (.one 0 (.one 1 (.one 2 (.alt 3 (.one 4 (.one 5 (.alt 6 (.alt 7 (.one 8 .fin) .stop) .stop))) (.alt 4 (.alt 3 (.one 5 (.alt 6 (.alt 7 (.one 8 .fin) .stop) .stop)) (.alt 6 (.alt 3 (.one 5 (.alt 7 (.one 8 .fin) .stop)) .stop) .stop)) (.alt 6 (.alt 3 (.one 4 (.one 5 (.alt 7 (.one 8 .fin) .stop))) (.alt 4 (.alt 3 (.one 5 (.alt 7 (.one 8 .fin) .stop)) .stop) .stop)) .stop)))))) ⟨[(2, .bptr 0 0), (4, .bptr 1 0), (5, .bool false), (1, .l1 c), (6, .bptr 3 0), (7, .int (wholeD s t.length))], [(2, .t3 (List.replicate s.length (List.replicate s.length (List.replicate s.length 0)))), (0, .bx [.l2 s, .l1 t]), (1, .bx [.nil]), (3, .bx [.ref 2 []])]⟩ ⟨[(2, .bptr 0 0), (4, .bptr 1 0), (5, .bool false), (1, .l1 c), (6, .bptr 2 0), (7, .int (wholeD s t.length))], [(3, .t3 (List.replicate s.length (List.replicate s.length (List.replicate s.length 0)))), (0, .bx [.l2 s, .l1 t]), (1, .bx [.nil]), (2, .bx [.ref 3 []])]⟩ (fix0 hcx) mixed (by kernel_rfl) (fun K hK hK2 => ?_) ?_ ?_
 ·simp only [go_sem, seval, Option.getD_some, and_true, true_and, and_self, List.contains_cons, List.contains_nil, Bool.or_false, Bool.or_true]
  repeat' (first | exact hK _ (by refine And.intro ?_ rfl; simp only [leS, Nat.reduceEqDiff, ↓reduceIte, true_and, and_true])  | exact hK2 _ (by refine And.intro ?_ rfl; simp only [leS, Nat.reduceEqDiff, ↓reduceIte, true_and, and_true]) | with_reducible refine And.intro ?_ ?_ | omega | (refine fcall_own rfl (emptyCube_ok s.length (by omega) (by omega)) rfl ?_; simp only [go_sem, seval, Option.getD_some, and_true, true_and, and_self, List.contains_cons, List.contains_nil, Bool.or_false, Bool.or_true]) | ((first | refine fcall_data (dwhole_ok s t hs) rfl ?_ | refine YR_intro (acall_data (dwhole_ok s t hs) rfl) ?_); simp only [go_sem, seval, Option.getD_some, and_true, true_and, and_self, List.contains_cons, List.contains_nil, Bool.or_false, Bool.or_true]))
 ·rw [ls, ← cubL_zero (g := numV s t.length c)]
  refine gC fun K hK => ?_
  (repeat refine aI (hb := ?_))
  first | refine fcall_fresh rfl (hI) ?_ | refine YR_intro (acall_fresh rfl (hI)) ?_
  simp only [go_sem, seval]
  refine hK _ ?_; clear hK K
  refine gA ?_
  (repeat refine ats_seq ?_); refine ats_loop (fun i : Nat => ⟨[(1, .l1 c), (2, .bptr 0 0), (4, .bptr 1 0), (5, .bool false), (6, .bptr 3 0), (7, .int (wholeD s t.length)), (8, .l1 (ivF (s.getD 0 []))), (30, .l2 s), (31, .int t.length), (32, .int i)], [(2, .t3 (cubL t.length (numV s t.length c) i 0 0)), (0, .bx [.l2 s, .l1 t]), (1, .bx [.nil]), (3, .bx [.ref 2 []])]⟩) (fun i => i ≤ t.length) (fun i => t.length - i) 0 (Nat.zero_le _) (by refine And.intro ?_ rfl; simp only [leS, Nat.reduceEqDiff, ↓reduceIte, true_and, and_true]; repeat' (first | rfl | with_reducible refine And.intro ?_ ?_ | omega)) (fun i hi => ?_)
  refine gA ?_
  refine gI (fun hli => ?_) fun hli => ?_
  ·have ri := hm.row (show i < t.length by omega)
   refine ats_skip ?_
   (repeat refine ats_seq ?_); refine ats_block ?_
   refine gB ?_
   refine gA ?_
   (repeat refine ats_seq ?_); refine ats_loop (fun j : Nat => ⟨[(1, .l1 c), (2, .bptr 0 0), (4, .bptr 1 0), (5, .bool false), (6, .bptr 3 0), (7, .int (wholeD s t.length)), (8, .l1 (ivF (s.getD 0 []))), (30, .l2 s), (31, .int t.length), (32, .int i), (9, .int i), (10, .l1 (s.getD i [])), (38, .l2 s), (39, .int t.length), (40, .int j)], [(2, .t3 (cubL t.length (numV s t.length c) i j 0)), (0, .bx [.l2 s, .l1 t]), (1, .bx [.nil]), (3, .bx [.ref 2 []])]⟩) (fun j => j ≤ t.length) (fun j => t.length - j) 0 (Nat.zero_le _) (by refine And.intro ?_ rfl; simp only [leS, Nat.reduceEqDiff, ↓reduceIte, true_and, and_true]; repeat' (first | rfl | with_reducible refine And.intro ?_ ?_ | omega)) (fun j hj => ?_)
   refine gA ?_
   refine gI (fun hlj => ?_) fun hlj => ?_
   ·have rj := hm.row (show j < t.length by omega)
    refine ats_skip ?_
    (repeat refine ats_seq ?_); refine ats_block ?_
    refine gB ?_
    refine gA ?_
    (repeat refine ats_seq ?_); refine ats_loop (fun k : Nat => ⟨[(1, .l1 c), (2, .bptr 0 0), (4, .bptr 1 0), (5, .bool false), (6, .bptr 3 0), (7, .int (wholeD s t.length)), (8, .l1 (ivF (s.getD 0 []))), (30, .l2 s), (31, .int t.length), (32, .int i), (9, .int i), (10, .l1 (s.getD i [])), (38, .l2 s), (39, .int t.length), (40, .int j), (11, .int j), (12, .l1 (s.getD j [])), (45, .l1 c), (46, .int t.length), (47, .int k)], [(2, .t3 (cubL t.length (numV s t.length c) i j k)), (0, .bx [.l2 s, .l1 t]), (1, .bx [.nil]), (3, .bx [.ref 2 []])]⟩) (fun k => k ≤ t.length) (fun k => t.length - k) 0 (Nat.zero_le _) (by refine And.intro ?_ rfl; simp only [leS, Nat.reduceEqDiff, ↓reduceIte, true_and, and_true]; repeat' (first | rfl | with_reducible refine And.intro ?_ ?_ | omega)) (fun k hk => ?_)
    have hcl : (cubL t.length (numV s t.length c) i j k).length = t.length := cubL_length
    refine gA ?_
    refine gI (fun hlk => ?_) fun hlk => ?_
    ·have hck := hC k (by omega)
     have rk := hm.row (show (c.getD k 0).toNat < t.length by omega)
     refine ats_skip ?_
     (repeat refine ats_seq ?_); refine ats_block ?_
     refine gB ?_
     refine gA ?_
     refine gB ?_
     (repeat refine ats_seq ?_); refine ats_loop (fun l : Nat => ⟨[(1, .l1 c), (2, .bptr 0 0), (4, .bptr 1 0), (5, .bool false), (6, .bptr 3 0), (7, .int (wholeD s t.length)), (8, .l1 (ivF (s.getD 0 []))), (30, .l2 s), (31, .int t.length), (32, .int i), (9, .int i), (10, .l1 (s.getD i [])), (38, .l2 s), (39, .int t.length), (40, .int j), (11, .int j), (12, .l1 (s.getD j [])), (45, .l1 c), (46, .int t.length), (47, .int k), (13, .int k), (15, .int (sumTo (fun l => teF s c i j k l % 55441) l)), (56, .l1 (s.getD (c.getD k 0).toNat [])), (57, .int t.length), (58, .int l)], [(2, .t3 (cubL t.length (numV s t.length c) i j k)), (0, .bx [.l2 s, .l1 t]), (1, .bx [.nil]), (3, .bx [.ref 2 []])]⟩) (fun l => l ≤ t.length) (fun l => t.length - l) 0 (Nat.zero_le _) (by refine And.intro ?_ rfl; simp only [leS, Nat.reduceEqDiff, ↓reduceIte, true_and, and_true]; repeat' (first | rfl | with_reducible refine And.intro ?_ ?_ | omega)) (fun l hl => ?_)
     have sL := sumTo_le (f := fun l => teF s c i j k l % 55441) (B := 55440) (n := l) (fun x hx => ⟨Int.emod_nonneg _ (by omega), by have := Int.emod_lt_of_pos (teF s c i j k x) (show (0 : Int) < 55441 by omega); omega⟩)
     refine gA ?_
     refine gI (fun hll => ?_) fun hll => ?_
     ·have gl : (ivF (s.getD 0 [])).getD l 0 = 1 * inv (e2 s 0 l) % 55441 := ivF_get (by omega)
      have m1 := mulP (hm.inP (show i < t.length by omega) (show l < t.length by omega)) (hm.inP (show j < t.length by omega) (show l < t.length by omega))
      have m2 := mulP (inP_md (e2 s i l * e2 s j l)) (hm.inP (show (c.getD k 0).toNat < t.length by omega) (show l < t.length by omega))
      have m3 := mulP (inP_md (e2 s i l * e2 s j l % 55441 * e2 s (c.getD k 0).toNat l)) (inP_md (1 * inv (e2 s 0 l)))
      simp only [e2] at m1 m2 m3 gl
      refine ats_skip ?_
      (repeat refine ats_seq ?_); refine ats_block ?_
      refine gB ?_
      (repeat refine ats_seq ?_); refine ats_pick (fix0 hcx) mixed (by kernel_rfl) fun K hK => ?_; simp only [go_sem, seval]
      simp only [gl]
      try simp (disch := omega) only [tmP, tdP]
      (repeat refine aI (hb := ?_))
      refine hK _ ?_; clear hK K
      refine gB ?_
      refine ⟨l + 1,  by omega, by omega, .inl ⟨by simp only [leS, Nat.reduceEqDiff, ↓reduceIte, true_and, and_true]; exact ⟨rfl, by omega⟩,  rfl⟩⟩
     ·obtain rfl : l = t.length := by omega
      have pn : InP (sumTo (fun l => teF s c i j k l % 55441) t.length % 55441) := inP_md _
      have hd := divide_ok _ _ pn hw
      rw [imNum] at hd
      have c1 : ((cubL t.length (numV s t.length c) i j k).getD i []).length = t.length := cubF_mat (by omega)
      have c2 : (((cubL t.length (numV s t.length c) i j k).getD i []).getD j []).length = t.length := cubF_row (by omega) (by omega)
      refine ats_exit (lq_x ?_)
      (repeat refine ats_seq ?_); refine ats_pick (fix0 hcx) mixed (by kernel_rfl) fun K hK => ?_; simp only [go_sem, seval]
      try simp (disch := omega) only [tmP, tdP]
      simp only [hcl, c1, c2]
      (repeat refine aI (hb := ?_))
      first | refine fcall_data (hd) rfl ?_ | refine YR_intro (acall_data (hd) rfl) ?_
      simp only [go_sem, seval]
      (repeat refine aI (hb := ?_))
      refine hK _ ?_; clear hK K
      refine gB ?_
      refine ⟨k + 1,  by omega, by omega, .inl ⟨by simp only [leS, Nat.reduceEqDiff, ↓reduceIte, true_and, and_true]; omega,  by rw [← cubL_set (show i < t.length by omega) (show j < t.length by omega)]⟩⟩
    ·obtain rfl : k = t.length := by omega
     refine ats_exit (lq_x (ats_nil (bq_n ?_)))
     refine gB ?_
     refine ⟨j + 1,  by omega, by omega, .inl ⟨by simp only [leS, Nat.reduceEqDiff, ↓reduceIte, true_and, and_true]; omega,  by rw [cubL_row]⟩⟩
   ·obtain rfl : j = t.length := by omega
    refine ats_exit (lq_x (ats_nil (bq_n ?_)))
    refine gB ?_
    refine ⟨i + 1,  by omega, by omega, .inl ⟨by simp only [leS, Nat.reduceEqDiff, ↓reduceIte, true_and, and_true]; omega,  by rw [cubL_mat]⟩⟩
  ·obtain rfl : i = t.length := by omega
   refine ats_exit (lq_x ?_)
   rw [cubL_all, ← numD_eq]
   (repeat refine ats_seq ?_)
   refine ats_plan [] (.one 0 (.one 1 (.one 2 (.alt 3 (.one 4 .fin) .stop)))) ⟨[(5, .bool (bd (Cube (numD s t.length c)))), (4, .bptr 1 0)], [(2, .t3 (numD s t.length c)), (0, .bx [.l2 s, .l1 t]), (1, .bx [.ref 2 []]), (3, .bx [.ref 2 []])]⟩ (fix0 hcx) mixed (by kernel_rfl) (fun K hK => ?_) ?_
   ·simp only [go_sem, seval, Option.getD_some, and_true, true_and, and_self, List.contains_cons, List.contains_nil, Bool.or_false, Bool.or_true]
    repeat' (first | exact hK _ (by refine And.intro ?_ rfl; simp only [leS, Nat.reduceEqDiff, ↓reduceIte, true_and, and_true])  | with_reducible refine And.intro ?_ ?_ | omega | ((first | refine fcall_free rfl rfl (hr) ?_ | refine YR_intro (acall_free rfl rfl (hr)) ?_); simp only [go_sem, seval, Option.getD_some, and_true, true_and, and_self, List.contains_cons, List.contains_nil, Bool.or_false, Bool.or_true]))
   exact ats_ret (own2C (v := .agg [.ref 2 []]) (by simp only [go_sem, seval]) trivial rfl (by simp))
 ·rw [ls, ← cubL_zero (g := numV s t.length c)]
  refine gC fun K hK => ?_
  (repeat refine aI (hb := ?_))
  first | refine fcall_fresh rfl (hI) ?_ | refine YR_intro (acall_fresh rfl (hI)) ?_
  simp only [go_sem, seval]
  refine hK _ ?_; clear hK K
  refine gA ?_
  (repeat refine ats_seq ?_); refine ats_loop (fun i : Nat => ⟨[(1, .l1 c), (2, .bptr 0 0), (4, .bptr 1 0), (5, .bool false), (6, .bptr 2 0), (7, .int (wholeD s t.length)), (8, .l1 (ivF (s.getD 0 []))), (30, .l2 s), (31, .int t.length), (32, .int i)], [(3, .t3 (cubL t.length (numV s t.length c) i 0 0)), (0, .bx [.l2 s, .l1 t]), (1, .bx [.nil]), (2, .bx [.ref 3 []])]⟩) (fun i => i ≤ t.length) (fun i => t.length - i) 0 (Nat.zero_le _) (by refine And.intro ?_ rfl; simp only [leS, Nat.reduceEqDiff, ↓reduceIte, true_and, and_true]; repeat' (first | rfl | with_reducible refine And.intro ?_ ?_ | omega)) (fun i hi => ?_)
  refine gA ?_
  refine gI (fun hli => ?_) fun hli => ?_
  ·have ri := hm.row (show i < t.length by omega)
   refine ats_skip ?_
   (repeat refine ats_seq ?_); refine ats_block ?_
   refine gB ?_
   refine gA ?_
   (repeat refine ats_seq ?_); refine ats_loop (fun j : Nat => ⟨[(1, .l1 c), (2, .bptr 0 0), (4, .bptr 1 0), (5, .bool false), (6, .bptr 2 0), (7, .int (wholeD s t.length)), (8, .l1 (ivF (s.getD 0 []))), (30, .l2 s), (31, .int t.length), (32, .int i), (9, .int i), (10, .l1 (s.getD i [])), (38, .l2 s), (39, .int t.length), (40, .int j)], [(3, .t3 (cubL t.length (numV s t.length c) i j 0)), (0, .bx [.l2 s, .l1 t]), (1, .bx [.nil]), (2, .bx [.ref 3 []])]⟩) (fun j => j ≤ t.length) (fun j => t.length - j) 0 (Nat.zero_le _) (by refine And.intro ?_ rfl; simp only [leS, Nat.reduceEqDiff, ↓reduceIte, true_and, and_true]; repeat' (first | rfl | with_reducible refine And.intro ?_ ?_ | omega)) (fun j hj => ?_)
   refine gA ?_
   refine gI (fun hlj => ?_) fun hlj => ?_
   ·have rj := hm.row (show j < t.length by omega)
    refine ats_skip ?_
    (repeat refine ats_seq ?_); refine ats_block ?_
    refine gB ?_
    refine gA ?_
    (repeat refine ats_seq ?_); refine ats_loop (fun k : Nat => ⟨[(1, .l1 c), (2, .bptr 0 0), (4, .bptr 1 0), (5, .bool false), (6, .bptr 2 0), (7, .int (wholeD s t.length)), (8, .l1 (ivF (s.getD 0 []))), (30, .l2 s), (31, .int t.length), (32, .int i), (9, .int i), (10, .l1 (s.getD i [])), (38, .l2 s), (39, .int t.length), (40, .int j), (11, .int j), (12, .l1 (s.getD j [])), (45, .l1 c), (46, .int t.length), (47, .int k)], [(3, .t3 (cubL t.length (numV s t.length c) i j k)), (0, .bx [.l2 s, .l1 t]), (1, .bx [.nil]), (2, .bx [.ref 3 []])]⟩) (fun k => k ≤ t.length) (fun k => t.length - k) 0 (Nat.zero_le _) (by refine And.intro ?_ rfl; simp only [leS, Nat.reduceEqDiff, ↓reduceIte, true_and, and_true]; repeat' (first | rfl | with_reducible refine And.intro ?_ ?_ | omega)) (fun k hk => ?_)
    have hcl : (cubL t.length (numV s t.length c) i j k).length = t.length := cubL_length
    refine gA ?_
    refine gI (fun hlk => ?_) fun hlk => ?_
    ·have hck := hC k (by omega)
     have rk := hm.row (show (c.getD k 0).toNat < t.length by omega)
     refine ats_skip ?_
     (repeat refine ats_seq ?_); refine ats_block ?_
     refine gB ?_
     refine gA ?_
     refine gB ?_
     (repeat refine ats_seq ?_); refine ats_loop (fun l : Nat => ⟨[(1, .l1 c), (2, .bptr 0 0), (4, .bptr 1 0), (5, .bool false), (6, .bptr 2 0), (7, .int (wholeD s t.length)), (8, .l1 (ivF (s.getD 0 []))), (30, .l2 s), (31, .int t.length), (32, .int i), (9, .int i), (10, .l1 (s.getD i [])), (38, .l2 s), (39, .int t.length), (40, .int j), (11, .int j), (12, .l1 (s.getD j [])), (45, .l1 c), (46, .int t.length), (47, .int k), (13, .int k), (15, .int (sumTo (fun l => teF s c i j k l % 55441) l)), (56, .l1 (s.getD (c.getD k 0).toNat [])), (57, .int t.length), (58, .int l)], [(3, .t3 (cubL t.length (numV s t.length c) i j k)), (0, .bx [.l2 s, .l1 t]), (1, .bx [.nil]), (2, .bx [.ref 3 []])]⟩) (fun l => l ≤ t.length) (fun l => t.length - l) 0 (Nat.zero_le _) (by refine And.intro ?_ rfl; simp only [leS, Nat.reduceEqDiff, ↓reduceIte, true_and, and_true]; repeat' (first | rfl | with_reducible refine And.intro ?_ ?_ | omega)) (fun l hl => ?_)
     have sL := sumTo_le (f := fun l => teF s c i j k l % 55441) (B := 55440) (n := l) (fun x hx => ⟨Int.emod_nonneg _ (by omega), by have := Int.emod_lt_of_pos (teF s c i j k x) (show (0 : Int) < 55441 by omega); omega⟩)
     refine gA ?_
     refine gI (fun hll => ?_) fun hll => ?_
     ·have gl : (ivF (s.getD 0 [])).getD l 0 = 1 * inv (e2 s 0 l) % 55441 := ivF_get (by omega)
      have m1 := mulP (hm.inP (show i < t.length by omega) (show l < t.length by omega)) (hm.inP (show j < t.length by omega) (show l < t.length by omega))
      have m2 := mulP (inP_md (e2 s i l * e2 s j l)) (hm.inP (show (c.getD k 0).toNat < t.length by omega) (show l < t.length by omega))
      have m3 := mulP (inP_md (e2 s i l * e2 s j l % 55441 * e2 s (c.getD k 0).toNat l)) (inP_md (1 * inv (e2 s 0 l)))
      simp only [e2] at m1 m2 m3 gl
      refine ats_skip ?_
      (repeat refine ats_seq ?_); refine ats_block ?_
      refine gB ?_
      (repeat refine ats_seq ?_); refine ats_pick (fix0 hcx) mixed (by kernel_rfl) fun K hK => ?_; simp only [go_sem, seval]
      simp only [gl]
      try simp (disch := omega) only [tmP, tdP]
      (repeat refine aI (hb := ?_))
      refine hK _ ?_; clear hK K
      refine gB ?_
      refine ⟨l + 1,  by omega, by omega, .inl ⟨by simp only [leS, Nat.reduceEqDiff, ↓reduceIte, true_and, and_true]; exact ⟨rfl, by omega⟩,  rfl⟩⟩
     ·obtain rfl : l = t.length := by omega
      have pn : InP (sumTo (fun l => teF s c i j k l % 55441) t.length % 55441) := inP_md _
      have hd := divide_ok _ _ pn hw
      rw [imNum] at hd
      have c1 : ((cubL t.length (numV s t.length c) i j k).getD i []).length = t.length := cubF_mat (by omega)
      have c2 : (((cubL t.length (numV s t.length c) i j k).getD i []).getD j []).length = t.length := cubF_row (by omega) (by omega)
      refine ats_exit (lq_x ?_)
      (repeat refine ats_seq ?_); refine ats_pick (fix0 hcx) mixed (by kernel_rfl) fun K hK => ?_; simp only [go_sem, seval]
      try simp (disch := omega) only [tmP, tdP]
      simp only [hcl, c1, c2]
      (repeat refine aI (hb := ?_))
      first | refine fcall_data (hd) rfl ?_ | refine YR_intro (acall_data (hd) rfl) ?_
      simp only [go_sem, seval]
      (repeat refine aI (hb := ?_))
      refine hK _ ?_; clear hK K
      refine gB ?_
      refine ⟨k + 1,  by omega, by omega, .inl ⟨by simp only [leS, Nat.reduceEqDiff, ↓reduceIte, true_and, and_true]; omega,  by rw [← cubL_set (show i < t.length by omega) (show j < t.length by omega)]⟩⟩
    ·obtain rfl : k = t.length := by omega
     refine ats_exit (lq_x (ats_nil (bq_n ?_)))
     refine gB ?_
     refine ⟨j + 1,  by omega, by omega, .inl ⟨by simp only [leS, Nat.reduceEqDiff, ↓reduceIte, true_and, and_true]; omega,  by rw [cubL_row]⟩⟩
   ·obtain rfl : j = t.length := by omega
    refine ats_exit (lq_x (ats_nil (bq_n ?_)))
    refine gB ?_
    refine ⟨i + 1,  by omega, by omega, .inl ⟨by simp only [leS, Nat.reduceEqDiff, ↓reduceIte, true_and, and_true]; omega,  by rw [cubL_mat]⟩⟩
  ·obtain rfl : i = t.length := by omega
   refine ats_exit (lq_x ?_)
   rw [cubL_all, ← numD_eq]
   (repeat refine ats_seq ?_)
   refine ats_plan [] (.one 0 (.one 1 (.one 2 (.alt 3 (.one 4 .fin) .stop)))) ⟨[(5, .bool (bd (Cube (numD s t.length c)))), (4, .bptr 1 0)], [(3, .t3 (numD s t.length c)), (0, .bx [.l2 s, .l1 t]), (1, .bx [.ref 3 []]), (2, .bx [.ref 3 []])]⟩ (fix0 hcx) mixed (by kernel_rfl) (fun K hK => ?_) ?_
   ·simp only [go_sem, seval, Option.getD_some, and_true, true_and, and_self, List.contains_cons, List.contains_nil, Bool.or_false, Bool.or_true]
    repeat' (first | exact hK _ (by refine And.intro ?_ rfl; simp only [leS, Nat.reduceEqDiff, ↓reduceIte, true_and, and_true])  | with_reducible refine And.intro ?_ ?_ | omega | ((first | refine fcall_free rfl rfl (hr) ?_ | refine YR_intro (acall_free rfl rfl (hr)) ?_); simp only [go_sem, seval, Option.getD_some, and_true, true_and, and_self, List.contains_cons, List.contains_nil, Bool.or_false, Bool.or_true]))
   exact ats_ret (own2C (v := .agg [.ref 3 []]) (by simp only [go_sem, seval]) trivial rfl (by simp))
end Go.Proofs.YtjpdkdepbkmebaaGreat
namespace Go.Proofs.YtjpdkdepbkmebaaGreat
open Go Go.Aw Go.Pl
theorem dataFault_ok (s : List (List Int)) (t : List Int) (hs : Shape s t) : PureCall Tryz.prog 37 [.agg [.l2 s, .l1 t]] (.int (dF s t)) := by
 have hS := isStart_ok s t hs
 have hW := dwhole_ok s t hs
 have hJ := conjugation_ok s t hs
 have hT := turns_ok s t hs
 refine PureCall.intro (n := 32) (rs := [.tmp 2]) Tryz.call37 Tryz.func37 rfl rfl rfl (by simp only [List.length_cons, List.length_nil]; omega) (fun cx hcx => ats_of ?_); simp only [argSlots, Nat.zero_add, Nat.reduceAdd]
 refine gA ?_
 refine gC fun K hK => ?_
 first | refine fcall_free rfl rfl (hS) ?_ | refine YR_intro (acall_free rfl rfl (hS)) ?_
 simp only [go_sem, seval]
 refine hK _ ?_; clear hK K
 by_cases h0 : StartP s t
 ·rw [bd_true h0]
  (repeat refine ats_seq ?_); refine ats_no rfl trivial ?_
  refine ats_skip ?_
  refine gC fun K hK => ?_
  first | refine fcall_free rfl rfl (hW) ?_ | refine YR_intro (acall_free rfl rfl (hW)) ?_
  simp only [go_sem, seval]
  refine hK _ ?_; clear hK K
  by_cases h1 : wholeD s t.length = 0
  ·simp only [h1, decide_true]
   (repeat refine ats_seq ?_); refine ats_yes rfl trivial ?_
   refine gA ?_
   refine ats_ret (finI rfl ?_)
   rw [dF_1 h0 h1]
  ·simp only [h1, decide_false]
   (repeat refine ats_seq ?_); refine ats_no rfl trivial ?_
   refine ats_skip ?_
   cases hc : cj s t with
   | none =>
    rw [hc] at hJ
    simp only [optA] at hJ
    refine gC fun K hK => ?_
    first | refine fcall_fresh rfl (hJ) ?_ | refine YR_intro (acall_fresh rfl (hJ)) ?_
    simp only [go_sem, seval]
    refine hK _ ?_; clear hK K
    refine gA ?_
    (repeat refine ats_seq ?_); refine ats_yes rfl trivial ?_
    refine gA ?_
    refine ats_ret (finI rfl ?_)
    rw [dF_2 h0 h1 hc]
   | some c =>
    rw [hc] at hJ
    simp only [optA] at hJ
    have hci := cj_in hc
    have hF := fusion_ok s t c hs hci.1 hci.2
    have hR := IsRing_ok (numD s t.length c)
    refine gC fun K hK => ?_
    first | refine fcall_fresh rfl (hJ) ?_ | refine YR_intro (acall_fresh rfl (hJ)) ?_
    simp only [go_sem, seval]
    refine hK _ ?_; clear hK K
    have hc1 := hci.1
    have hs1 := hs.1
    refine gB ?_
    (repeat refine ats_seq ?_); refine ats_no rfl trivial ?_
    refine ats_skip ?_
    refine gC fun K hK => ?_
    first | refine fcall_free rfl rfl (hT) ?_ | refine YR_intro (acall_free rfl rfl (hT)) ?_
    simp only [go_sem, seval]
    refine hK _ ?_; clear hK K
    by_cases h2 : TurnP s t
    ·rw [bd_true h2]
     (repeat refine ats_seq ?_); refine ats_no rfl trivial ?_
     refine ats_skip ?_
     by_cases h3 : Cube (numD s t.length c)
     ·rw [bd_true h3] at hF
      refine gC fun K hK => ?_
      first | refine fcall_fresh rfl (hF) ?_ | refine YR_intro (acall_fresh rfl (hF)) ?_
      simp only [go_sem, seval]
      refine hK _ ?_; clear hK K
      refine gC fun K hK => ?_
      first | refine YR_intro (fun _ => acall_free rfl rfl (hR)) ?_ | refine YR_intro (acall_free rfl rfl (hR)) ?_
      simp only [go_sem, seval]
      refine hK _ ?_; clear hK K
      cases h4 : isRing (numD s t.length c) with
      | true =>
       (repeat refine ats_seq ?_); refine ats_no rfl trivial ?_
       refine ats_skip ?_
       refine gA ?_
       refine ats_ret (finI rfl ?_)
       rw [dF_5 h0 h1 hc h2 h4]
      | false =>
       (repeat refine ats_seq ?_); refine ats_yes rfl trivial ?_
       refine gA ?_
       refine ats_ret (finI rfl ?_)
       rw [dF_4 h0 h1 hc h2 h4]
     ·rw [bd_false h3] at hF
      have h4 : isRing (numD s t.length c) = false := bd_false (fun h => h3 h.1)
      refine gC fun K hK => ?_
      first | refine fcall_fresh rfl (hF) ?_ | refine YR_intro (acall_fresh rfl (hF)) ?_
      simp only [go_sem, seval]
      refine hK _ ?_; clear hK K
      refine gC fun K hK => ?_
      refine YR_intro (v := .bool false) (by first | trivial | (intro h; cases h)) ?_
      simp only [go_sem, seval]
      refine hK _ ?_; clear hK K
      (repeat refine ats_seq ?_); refine ats_yes rfl trivial ?_
      refine gA ?_
      refine ats_ret (finI rfl ?_)
      rw [dF_4 h0 h1 hc h2 h4]
    ·rw [bd_false h2]
     (repeat refine ats_seq ?_); refine ats_yes rfl trivial ?_
     refine gA ?_
     refine ats_ret (finI rfl ?_)
     rw [dF_3 h0 h1 hc h2]
 ·rw [bd_false h0]
  (repeat refine ats_seq ?_); refine ats_yes rfl trivial ?_
  refine gA ?_
  refine ats_ret (finI rfl ?_)
  rw [dF_0 h0]
theorem IsData_ok (s : List (List Int)) (t : List Int) : PureCall Tryz.prog 21 [.agg [.l2 s, .l1 t]] (.bool (isData s t)) := by
 have hk := isShape_ok s t
 refine PureCall.intro (n := 10) (rs := [.tmp 2]) Tryz.call21 Tryz.func21 rfl rfl rfl (by simp only [List.length_cons, List.length_nil]; omega) (fun cx hcx => ats_of ?_); simp only [argSlots, Nat.zero_add, Nat.reduceAdd]
 refine gA ?_
 by_cases hs : Shape s t
 ·rw [bd_true hs] at hk
  have hf := dataFault_ok s t hs
  have hr := dF_range s t
  refine gC fun K hK => ?_
  first | refine fcall_free rfl rfl (hk) ?_ | refine YR_intro (acall_free rfl rfl (hk)) ?_
  simp only [go_sem, seval]
  first | refine YR_intro (fun _ => acall_free rfl rfl (hf)) ?_ | refine YR_intro (acall_free rfl rfl (hf)) ?_
  simp only [go_sem, seval]
  refine hK _ ?_; clear hK K
  refine ats_ret (finB rfl ?_)
  by_cases h : dF s t = -1
  ·rw [isData_iff.2 ⟨hs, h⟩, h]; rfl
  ·rw [isData_no (fun hh => h hh.2)]
   simp only [Bool.false_eq, decide_eq_false_iff_not]
   omega
 ·rw [bd_false hs] at hk
  have e : isData s t = false := isData_no (fun hh => hs hh.1)
  refine gC fun K hK => ?_
  first | refine fcall_free rfl rfl (hk) ?_ | refine YR_intro (acall_free rfl rfl (hk)) ?_
  simp only [go_sem, seval]
  refine YR_intro (v := .int 0) (by first | trivial | (intro h; cases h)) ?_
  simp only [go_sem, seval]
  refine hK _ ?_; clear hK K
  refine ats_ret (finB rfl ?_)
  rw [e]
end Go.Proofs.YtjpdkdepbkmebaaGreat
