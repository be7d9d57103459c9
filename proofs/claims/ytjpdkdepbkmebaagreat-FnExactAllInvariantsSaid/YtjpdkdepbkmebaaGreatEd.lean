import Derived.Test.YtjpdkdepbkmebaaGreatEa
import Derived.Test.YtjpdkdepbkmebaaGreatWx4
import Derived.Test.YtjpdkdepbkmebaaGreatWx3
set_option linter.unusedSimpArgs false
set_option linter.unusedVariables false
namespace Go.Proofs.YtjpdkdepbkmebaaGreat
open Go Go.Aw Go.Pl
theorem l14Matrix_ok (n : Nat) (m : List (List Int)) (hn : n ≤ 1000000) : PureCall Tryz.prog 53 [.int n, .l2 m] (.bool (bd (MatOk n m))) := by
 refine PureCall.intro (n := 38) (rs := [.tmp 4]) Tryz.call53 Tryz.func53 rfl rfl rfl (by simp only [List.length_cons, List.length_nil]; omega) (fun cx hcx => ats_of ?_); simp only [argSlots, Nat.zero_add, Nat.reduceAdd]
 refine gA ?_
 refine ats_know 1 fun hkn => ?_; simp only [St.get, slotGet, Nat.reduceEqDiff, ↓reduceIte, if_true, fact, facts] at hkn
 have hlen := hkn.1
 refine gA ?_
 (repeat refine ats_seq ?_); refine ats_loop (fun i : Nat => ⟨[(0, .int n), (1, .l2 m), (5, .int i)], []⟩) (fun i => i ≤ m.length ∧ ∀ b, b < i → RowOk n (m.getD b [])) (fun i => m.length - i) 0 ⟨Nat.zero_le _, fun a h => absurd h (Nat.not_lt_zero a)⟩ (by refine And.intro ?_ rfl; simp only [leS, Nat.reduceEqDiff, ↓reduceIte, true_and, and_true]; rfl) (fun i hi => ?_); obtain ⟨hi, Hi⟩ := hi
 refine gA ?_
 refine gI (fun hc2 => ?_) fun hc2 => ?_
 ·refine ats_skip ?_
  (repeat refine ats_seq ?_); refine ats_block ?_
  refine gB ?_
  refine gI (fun hc3 => ?_) fun hc3 => ?_
  ·refine gA ?_
   refine ats_ret (finB rfl ?_)
   refine (bd_false (fun h => ?_)).symm
   exact hc3 (by have := (h.2 i (by have := h.1; omega)).1; omega)
  ·have hl : (m.getD i []).length = n := by omega
   refine ats_skip ?_
   refine gA ?_
   (repeat refine ats_seq ?_); refine ats_loop (fun j : Nat => ⟨[(0, .int n), (1, .l2 m), (5, .int i), (6, .int j)], []⟩) (fun j => j ≤ n ∧ ∀ b, b < j → (0 ≤ e2 m i b ∧ e2 m i b ≤ 1000)) (fun j => n - j) 0 ⟨Nat.zero_le _, fun a h => absurd h (Nat.not_lt_zero a)⟩ (by refine And.intro ?_ rfl; simp only [leS, Nat.reduceEqDiff, ↓reduceIte, true_and, and_true]; rfl) (fun j hj => ?_); obtain ⟨hj, Hj⟩ := hj
   refine gA ?_
   refine gI (fun hc5 => ?_) fun hc5 => ?_
   ·refine ats_skip ?_
    (repeat refine ats_seq ?_); refine ats_block ?_
    refine gC fun K hK => ?_
    simp only [hl]
    (repeat refine aI (hb := ?_))
    first | refine fcall_data (l01In_ok _ _ _) rfl ?_ | refine YR_intro (acall_data (l01In_ok _ _ _) rfl) ?_
    simp only [go_sem, seval]
    refine hK _ ?_; clear hK K
    refine gI (fun hc6 => ?_) fun hc6 => ?_
    ·simp only [Bool.not_eq_true', Bool.and_eq_false_iff, decide_eq_false_iff_not] at hc6
     refine gA ?_
     refine ats_ret (finB rfl ?_)
     refine (bd_false (fun h => ?_)).symm
     have := matOk_in h (show i < n by have := h.1; omega) (show j < n by omega)
     unfold e2 at this
     omega
    ·simp only [Bool.not_eq_false', Bool.and_eq_true, decide_eq_true_eq] at hc6
     refine ats_skip ?_
     refine gB ?_
     refine ⟨j + 1, ⟨by omega, fun a ha => by rcases Nat.lt_succ_iff_lt_or_eq.1 ha with h | rfl; exact Hj a h; exact hc6⟩, by omega, .inl ⟨?_, rfl⟩⟩; simp only [leS, Nat.reduceEqDiff, ↓reduceIte, true_and, and_true]; omega
   ·refine ats_exit (lq_x ?_)
    refine gB ?_
    refine ⟨i + 1, ⟨by omega, fun a ha => by rcases Nat.lt_succ_iff_lt_or_eq.1 ha with h | rfl; exact Hi a h; exact ⟨hl, fun k hk => Hj k (by omega)⟩⟩, by omega, .inl ⟨?_, rfl⟩⟩; simp only [leS, Nat.reduceEqDiff, ↓reduceIte, true_and, and_true]; omega
 ·refine ats_exit (lq_x ?_)
  refine gA ?_
  refine ats_ret (finB rfl ?_)
  by_cases hz : m.length = n
  ·rw [decide_eq_true (by omega)]; exact (bd_true ⟨hz, fun k hk => Hi k (by omega)⟩).symm
  ·rw [decide_eq_false (by omega)]; exact (bd_false (fun h => hz h.1)).symm
theorem l14Is_ok (s : List (List Int)) (t : List Int) (m : List (List Int)) (hs : Shape s t) : PureCall Tryz.prog 34 [.agg [.l2 s, .l1 t], .l2 m] (.bool (bd (InvP s t m))) := by
 have h16 := hs.2.1
 have h1 := hs.1
 have hm := hs.2.2.1
 have hM := l14Matrix_ok t.length m (by omega)
 refine PureCall.intro (n := 63) (rs := [.tmp 4]) Tryz.call34 Tryz.func34 rfl rfl rfl (by simp only [List.length_cons, List.length_nil]; omega) (fun cx hcx => ats_of ?_); simp only [argSlots, Nat.zero_add, Nat.reduceAdd]
 refine gA ?_
 refine gA ?_
 by_cases hM1 : MatOk t.length m
 ·have hm1 := matOk_MatP hM1
  have lm := hm1.1
  have rm : ∀ i, i < t.length → (m.getD i []).length = t.length := fun i hi => hm1.row hi
  have rm0 := rm 0 (by omega)
  rw [bd_true hM1] at hM
  refine gC fun K hK => ?_
  first | refine fcall_data (hM) rfl ?_ | refine YR_intro (acall_data (hM) rfl) ?_
  simp only [go_sem, seval]
  simp only [lm, rm0]
  (repeat refine aI (hb := ?_))
  refine hK _ ?_; clear hK K
  refine gI (fun hc1 => ?_) fun hc1 => ?_
  ·skip
   refine gA ?_
   refine ats_ret (finB rfl ?_)
   exact (bd_false (fun h => hc1 h.2.1)).symm
  ·skip
   refine ats_skip ?_
   refine gA ?_
   (repeat refine ats_seq ?_); refine ats_loop (fun i : Nat => ⟨[(1, .l2 m), (2, .bptr 0 0), (5, .int t.length), (6, .int i)], [(0, .bx [.l2 s, .l1 t])]⟩) (fun i => i ≤ t.length ∧ ∀ b, b < i → (∀ j, j < t.length → e2 m b j ≠ 0 → t.getD b 0 = t.getD j 0)) (fun i => t.length - i) 0 ⟨Nat.zero_le _, fun a h => absurd h (Nat.not_lt_zero a)⟩ (by refine And.intro ?_ rfl; simp only [leS, Nat.reduceEqDiff, ↓reduceIte, true_and, and_true]; rfl) (fun i hi => ?_); obtain ⟨hi, Hi⟩ := hi
   refine gA ?_
   refine gI (fun hc3 => ?_) fun hc3 => ?_
   ·have rmi := rm i (by omega)
    refine ats_skip ?_
    (repeat refine ats_seq ?_); refine ats_block ?_
    refine gA ?_
    (repeat refine ats_seq ?_); refine ats_loop (fun j : Nat => ⟨[(1, .l2 m), (2, .bptr 0 0), (5, .int t.length), (6, .int i), (7, .int j)], [(0, .bx [.l2 s, .l1 t])]⟩) (fun j => j ≤ t.length ∧ ∀ b, b < j → (e2 m i b ≠ 0 → t.getD i 0 = t.getD b 0)) (fun j => t.length - j) 0 ⟨Nat.zero_le _, fun a h => absurd h (Nat.not_lt_zero a)⟩ (by refine And.intro ?_ rfl; simp only [leS, Nat.reduceEqDiff, ↓reduceIte, true_and, and_true]; rfl) (fun j hj => ?_); obtain ⟨hj, Hj⟩ := hj
    refine gA ?_
    refine gI (fun hc5 => ?_) fun hc5 => ?_
    ·refine ats_skip ?_
     (repeat refine ats_seq ?_); refine ats_block ?_
     (repeat refine ats_seq ?_); refine ats_pick (fix0 hcx) mixed (by kernel_rfl) fun K hK => ?_; simp only [go_sem, seval]
     simp only [lm, rmi]
     (repeat refine aI (hb := ?_))
     refine hK _ ?_; clear hK K
     refine gI (fun hc6 => ?_) fun hc6 => ?_
     ·simp only [Bool.and_eq_true, Bool.not_eq_true', decide_eq_false_iff_not] at hc6
      refine gA ?_
      refine ats_ret (finB rfl ?_)
      exact (bd_false (fun h => hc6.2 (h.2.2.1 i (by omega) j (by omega) hc6.1))).symm
     ·simp only [Bool.and_eq_false_iff, Bool.not_eq_false', decide_eq_true_eq] at hc6
      refine ats_skip ?_
      refine gB ?_
      refine ⟨j + 1, ⟨by omega, fun a ha => by rcases Nat.lt_succ_iff_lt_or_eq.1 ha with h | rfl; exact Hj a h; exact (fun h => hc6.resolve_left h)⟩, by omega, .inl ⟨?_, rfl⟩⟩; simp only [leS, Nat.reduceEqDiff, ↓reduceIte, true_and, and_true]; omega
    ·refine ats_exit (lq_x ?_)
     refine gB ?_
     refine ⟨i + 1, ⟨by omega, fun a ha => by rcases Nat.lt_succ_iff_lt_or_eq.1 ha with h | rfl; exact Hi a h; exact (fun k hk => Hj k (by omega))⟩, by omega, .inl ⟨?_, rfl⟩⟩; simp only [leS, Nat.reduceEqDiff, ↓reduceIte, true_and, and_true]; omega
   ·have hI : ∀ i, i < t.length → ∀ j, j < t.length → e2 m i j ≠ 0 → t.getD i 0 = t.getD j 0 := fun k hk => Hi k (by omega)
    clear Hi
    have c1 := l12Times_ok s m t.length h16 hm hm1
    have c2 := l12Times_ok m s t.length h16 hm1 hm
    have c3 := l01Same2_ok (mulM s m t.length) (mulM m s t.length)
    refine ats_exit (lq_x ?_)
    (repeat refine ats_seq ?_); refine ats_pick (fix0 hcx) mixed (by kernel_rfl) fun K hK => ?_; simp only [go_sem, seval]
    first | refine fcall_fresh rfl (c1) ?_ | refine YR_intro (acall_fresh rfl (c1)) ?_
    simp only [go_sem, seval]
    first | refine fcall_fresh rfl (c2) ?_ | refine YR_intro (acall_fresh rfl (c2)) ?_
    simp only [go_sem, seval]
    first | refine fcall_data (c3) rfl ?_ | refine YR_intro (acall_data (c3) rfl) ?_
    simp only [go_sem, seval]
    refine hK _ ?_; clear hK K
    refine ats_ret (finB rfl ?_)
    by_cases hz : mulM s m t.length = mulM m s t.length
    ·rw [decide_eq_true hz]; exact (bd_true ⟨hM1, hc1, hI, hz⟩).symm
    ·rw [decide_eq_false hz]; exact (bd_false (fun h => hz h.2.2.2)).symm
 ·rw [bd_false hM1] at hM
  have e : bd (InvP s t m) = false := bd_false (fun h => hM1 h.1)
  refine gC fun K hK => ?_
  first | refine fcall_data (hM) rfl ?_ | refine YR_intro (acall_data (hM) rfl) ?_
  simp only [go_sem, seval]
  (repeat refine aI (hb := ?_))
  refine hK _ ?_; clear hK K
  (repeat refine ats_seq ?_); refine ats_yes rfl trivial ?_
  refine gA ?_
  refine ats_ret (finB rfl ?_)
  exact e.symm
theorem isInv1_ok (r : List Int) (n : Int) : PureCall Tryz.prog 41 [.l1 r, .cptr [.int n] 0] (.bool (rowBad n r)) := by
 refine PureCall.intro (n := 13) (rs := [.tmp 3]) Tryz.call41 Tryz.func41 rfl rfl rfl (by simp only [List.length_cons, List.length_nil]; omega) (fun cx hcx => ats_of ?_); simp only [argSlots, Nat.zero_add, Nat.reduceAdd]
 refine gA ?_
 refine gC fun K hK => ?_
 first | refine YR_intro (fun _ => acall_data (allWithin_ok r 0 1000) rfl) ?_ | refine YR_intro (acall_data (allWithin_ok r 0 1000) rfl) ?_
 simp only [go_sem, seval]
 refine hK _ ?_; clear hK K
 refine ats_ret (finB rfl ?_)
 rfl
theorem isInvariant_ok (s : List (List Int)) (t : List Int) (m : List (List Int)) (hs : Shape s t) : PureCall Tryz.prog 26 [.agg [.l2 s, .l1 t], .l2 m] (.bool (bd (InvP s t m))) := by
 have h16 := hs.2.1
 have h1 := hs.1
 have hm := hs.2.2.1
 have ls := hm.1
 refine PureCall.intro (n := 70) (rs := [.tmp 4]) Tryz.call26 Tryz.func26 rfl rfl rfl (by simp only [List.length_cons, List.length_nil]; omega) (fun cx hcx => ats_of ?_); simp only [argSlots, Nat.zero_add, Nat.reduceAdd]
 refine gA ?_
 refine gC fun K hK => ?_
 simp only [ls]
 refine hK _ ?_; clear hK K
 refine gC fun K hK => ?_
 first | refine YR_intro (fun _ => acall_free rfl rfl (containsF2_ok m 41 [.cptr [.int t.length] 0] (rowBad t.length) rfl (fun r => isInv1_ok r _))) ?_ | refine YR_intro (acall_free rfl rfl (containsF2_ok m 41 [.cptr [.int t.length] 0] (rowBad t.length) rfl (fun r => isInv1_ok r _))) ?_
 simp only [go_sem, seval]
 refine hK _ ?_; clear hK K
 refine gI (fun hc1 => ?_) fun hc1 => ?_
 ·refine gA ?_
  refine ats_ret (finB rfl ?_)
  refine (bd_false (fun h => ?_)).symm
  have hk := matOk_iff.1 h.1
  rw [hk.2, hk.1] at hc1
  simp at hc1
 ·simp only [Bool.or_eq_false_iff, Bool.not_eq_false', decide_eq_true_eq, Int.natCast_inj] at hc1
  have hM1 := matOk_iff.2 hc1
  have hm1 := matOk_MatP hM1
  have lm := hm1.1
  have rm : ∀ i, i < t.length → (m.getD i []).length = t.length := fun i hi => hm1.row hi
  have rm0 := rm 0 (by omega)
  refine ats_skip ?_
  refine gC fun K hK => ?_
  simp only [lm]
  refine hK _ ?_; clear hK K
  (repeat refine ats_seq ?_); refine ats_loop (fun i : Nat => ⟨[(1, .l2 m), (2, .bptr 0 0), (22, .l2 m), (23, .int t.length), (24, .int i)], [(0, .bx [.l2 s, .l1 t]), (1, .bx [.int t.length])]⟩) (fun i => i ≤ t.length ∧ ∀ b, b < i → (∀ j, j < t.length → e2 m b j ≠ 0 → t.getD b 0 = t.getD j 0)) (fun i => t.length - i) 0 ⟨Nat.zero_le _, fun a h => absurd h (Nat.not_lt_zero a)⟩ (by refine And.intro ?_ rfl; simp only [leS, Nat.reduceEqDiff, ↓reduceIte, true_and, and_true]; rfl) (fun i hi => ?_); obtain ⟨hi, Hi⟩ := hi
  refine gA ?_
  refine gI (fun hc3 => ?_) fun hc3 => ?_
  ·have rmi := rm i (by omega)
   refine ats_skip ?_
   (repeat refine ats_seq ?_); refine ats_block ?_
   refine gC fun K hK => ?_
   simp only [lm]
   (repeat refine aI (hb := ?_))
   refine hK _ ?_; clear hK K
   refine gC fun K hK => ?_
   simp only [rmi]
   refine hK _ ?_; clear hK K
   (repeat refine ats_seq ?_); refine ats_loop (fun j : Nat => ⟨[(1, .l2 m), (2, .bptr 0 0), (6, .int i), (22, .l2 m), (23, .int t.length), (24, .int i), (29, .l1 (m.getD i [])), (30, .int t.length), (31, .int j)], [(0, .bx [.l2 s, .l1 t]), (1, .bx [.int t.length])]⟩) (fun j => j ≤ t.length ∧ ∀ b, b < j → (e2 m i b ≠ 0 → t.getD i 0 = t.getD b 0)) (fun j => t.length - j) 0 ⟨Nat.zero_le _, fun a h => absurd h (Nat.not_lt_zero a)⟩ (by refine And.intro ?_ rfl; simp only [leS, Nat.reduceEqDiff, ↓reduceIte, true_and, and_true]; rfl) (fun j hj => ?_); obtain ⟨hj, Hj⟩ := hj
   refine gA ?_
   refine gI (fun hc5 => ?_) fun hc5 => ?_
   ·refine ats_skip ?_
    (repeat refine ats_seq ?_); refine ats_block ?_
    refine gC fun K hK => ?_
    simp only [rmi]
    (repeat refine aI (hb := ?_))
    refine hK _ ?_; clear hK K
    (repeat refine ats_seq ?_); refine ats_pick (fix0 hcx) mixed (by kernel_rfl) fun K hK => ?_; simp only [go_sem, seval]
    (repeat refine aI (hb := ?_))
    refine hK _ ?_; clear hK K
    refine gI (fun hc6 => ?_) fun hc6 => ?_
    ·simp only [Bool.and_eq_true, Bool.not_eq_true', decide_eq_false_iff_not] at hc6
     refine gA ?_
     refine ats_ret (finB rfl ?_)
     exact (bd_false (fun h => hc6.2 (h.2.2.1 i (by omega) j (by omega) hc6.1))).symm
    ·simp only [Bool.and_eq_false_iff, Bool.not_eq_false', decide_eq_true_eq] at hc6
     refine ats_skip ?_
     refine gB ?_
     refine ⟨j + 1, ⟨by omega, fun a ha => by rcases Nat.lt_succ_iff_lt_or_eq.1 ha with h | rfl; exact Hj a h; exact (fun h => hc6.resolve_left h)⟩, by omega, .inl ⟨?_, rfl⟩⟩; simp only [leS, Nat.reduceEqDiff, ↓reduceIte, true_and, and_true]; omega
   ·refine ats_exit (lq_x ?_)
    refine gB ?_
    refine ⟨i + 1, ⟨by omega, fun a ha => by rcases Nat.lt_succ_iff_lt_or_eq.1 ha with h | rfl; exact Hi a h; exact (fun k hk => Hj k (by omega))⟩, by omega, .inl ⟨?_, rfl⟩⟩; simp only [leS, Nat.reduceEqDiff, ↓reduceIte, true_and, and_true]; omega
  ·have hI : ∀ i, i < t.length → ∀ j, j < t.length → e2 m i j ≠ 0 → t.getD i 0 = t.getD j 0 := fun k hk => Hi k (by omega)
   clear Hi
   have c1 := multiply_ok s m t.length h1 h16 hm hm1
   have c2 := multiply_ok m s t.length h1 h16 hm1 hm
   have c3 := equalRows_ok (mulM m s t.length) (mulM s m t.length)
   refine ats_exit (lq_x ?_)
   (repeat refine ats_seq ?_); refine ats_pick (fix0 hcx) mixed (by kernel_rfl) fun K hK => ?_; simp only [go_sem, seval]
   simp only [lm, rm0]
   (repeat refine aI (hb := ?_))
   first | refine YR_intro (fun _ => acall_fresh rfl (c2)) ?_ | refine YR_intro (acall_fresh rfl (c2)) ?_
   simp only [go_sem, seval]
   first | refine YR_intro (fun _ => acall_fresh rfl (c1)) ?_ | refine YR_intro (acall_fresh rfl (c1)) ?_
   simp only [go_sem, seval]
   first | refine YR_intro (fun _ => acall_data (c3) rfl) ?_ | refine YR_intro (acall_data (c3) rfl) ?_
   simp only [go_sem, seval]
   refine hK _ ?_; clear hK K
   refine ats_ret (finB rfl ?_)
   by_cases hz0 : e2 m 0 0 = 1
   ·by_cases hz : mulM s m t.length = mulM m s t.length
    ·rw [bd_true ⟨hM1, hz0, hI, hz⟩, hz, decide_eq_true rfl, Bool.and_true]
     exact decide_eq_true hz0
    ·rw [bd_false (fun h => hz h.2.2.2), decide_eq_false (p := mulM m s t.length = mulM s m t.length) (fun h => hz h.symm), Bool.and_false]
   ·rw [bd_false (fun h => hz0 h.2.1), Bool.and_eq_false_iff]
    exact .inl (decide_eq_false hz0)
end Go.Proofs.YtjpdkdepbkmebaaGreat
