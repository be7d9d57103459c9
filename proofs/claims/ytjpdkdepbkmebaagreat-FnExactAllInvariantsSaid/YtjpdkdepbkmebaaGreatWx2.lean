import Derived.Test.YtjpdkdepbkmebaaGreatWx1
import Derived.Test.YtjpdkdepbkmebaaGreatPl1
set_option linter.unusedSimpArgs false
set_option linter.unusedVariables false
namespace Go.Proofs.YtjpdkdepbkmebaaGreat
open Go Go.Aw Go.Pl
theorem l01In_ok (n a b : Int) : PureCall Tryz.prog 16 [.int n, .int a, .int b] (.bool (decide (a ≤ n) && decide (n ≤ b))) := by
 refine PureCall.intro (n := 15) (rs := [.tmp 6]) Tryz.call16 Tryz.func16 rfl rfl rfl (by simp only [List.length_cons, List.length_nil]; omega) (fun cx hcx => ats_of ?_); simp only [argSlots, Nat.zero_add, Nat.reduceAdd]
 refine gA ?_
 refine gA ?_
 refine ats_ret (finB rfl ?_)
 rfl
theorem l03Cube_ok (t : List (List (List Int))) : PureCall Tryz.prog 76 [.l3 t] (.bool (bd (Cube t))) := by
 refine PureCall.intro (n := 59) (rs := [.tmp 2]) Tryz.call76 Tryz.func76 rfl rfl rfl (by simp only [List.length_cons, List.length_nil]; omega) (fun cx hcx => ats_of ?_); simp only [argSlots, Nat.zero_add, Nat.reduceAdd]
 refine gA ?_
 refine gA ?_
 refine gA ?_
 refine gI (fun hc => ?_) fun hc => ?_
 ·simp only [Bool.or_eq_true, Bool.or_eq_false_iff, Bool.and_eq_true, Bool.and_eq_false_iff, decide_eq_true_eq, decide_eq_false_iff_not, Bool.not_eq_true', Bool.not_eq_false'] at hc
  refine gA ?_
  refine ats_ret (finB rfl ?_)
  exact (bd_false (fun h => by have := h.1; have := h.2.1; omega)).symm
 ·simp only [Bool.or_eq_true, Bool.or_eq_false_iff, Bool.and_eq_true, Bool.and_eq_false_iff, decide_eq_true_eq, decide_eq_false_iff_not, Bool.not_eq_true', Bool.not_eq_false'] at hc
  refine ats_skip ?_
  refine gA ?_
  (repeat refine ats_seq ?_); refine ats_loop (fun i : Nat => ⟨[(0, .l3 t), (3, .int t.length), (4, .int i)], []⟩) (fun i => i ≤ t.length ∧ ∀ a, a < i → MatOk t.length (t.getD a [])) (fun i => t.length - i) 0 ⟨Nat.zero_le _, fun a h => absurd h (Nat.not_lt_zero a)⟩ (by
   refine And.intro ?_ rfl; simp only [leS, Nat.reduceEqDiff, ↓reduceIte, true_and, and_true]
   rfl) (fun i hi => ?_)
  obtain ⟨hi, hI⟩ := hi
  refine gA ?_
  refine gI (fun h1 => ?_) fun h1 => ?_
  ·refine ats_skip ?_
   (repeat refine ats_seq ?_); refine ats_block ?_
   refine gB ?_
   refine gI (fun h2 => ?_) fun h2 => ?_
   ·refine gA ?_
    refine ats_ret (finB rfl ?_)
    exact (bd_false (fun h => h2 (by rw [(h.2.2 i (by omega)).1]))).symm
   ·refine ats_skip ?_
    refine gA ?_
    (repeat refine ats_seq ?_); refine ats_loop (fun j : Nat => ⟨[(0, .l3 t), (3, .int t.length), (4, .int i), (5, .int j)], []⟩) (fun j => j ≤ t.length ∧ ∀ a, a < j → RowOk t.length ((t.getD i []).getD a [])) (fun j => t.length - j) 0 ⟨Nat.zero_le _, fun a h => absurd h (Nat.not_lt_zero a)⟩ (by
     refine And.intro ?_ rfl; simp only [leS, Nat.reduceEqDiff, ↓reduceIte, true_and, and_true]
     rfl) (fun j hj => ?_)
    obtain ⟨hj, hJ⟩ := hj
    refine gA ?_
    refine gI (fun h3 => ?_) fun h3 => ?_
    ·refine ats_skip ?_
     (repeat refine ats_seq ?_); refine ats_block ?_
     refine gB ?_
     refine gI (fun h4 => ?_) fun h4 => ?_
     ·refine gA ?_
      refine ats_ret (finB rfl ?_)
      exact (bd_false (fun h => h4 (by rw [((h.2.2 i (by omega)).2 j (by omega)).1]))).symm
     ·refine ats_skip ?_
      refine gA ?_
      (repeat refine ats_seq ?_); refine ats_loop (fun k : Nat => ⟨[(0, .l3 t), (3, .int t.length), (4, .int i), (5, .int j), (6, .int k)], []⟩) (fun k => k ≤ t.length ∧ ∀ a, a < k → InM (e3 t i j a)) (fun k => t.length - k) 0 ⟨Nat.zero_le _, fun a h => absurd h (Nat.not_lt_zero a)⟩ (by
       refine And.intro ?_ rfl; simp only [leS, Nat.reduceEqDiff, ↓reduceIte, true_and, and_true]
       rfl) (fun k hk => ?_)
      obtain ⟨hk, hK'⟩ := hk
      refine gA ?_
      refine gI (fun h5 => ?_) fun h5 => ?_
      ·refine ats_skip ?_
       (repeat refine ats_seq ?_); refine ats_block ?_
       refine gC fun K hK => ?_
       (repeat refine aI (hb := ?_))
       first | refine fcall_data (l01In_ok _ _ _) rfl ?_ | refine YR_intro (acall_data (l01In_ok _ _ _) rfl) ?_
       simp only [go_sem, seval]
       refine hK _ ?_; clear hK K
       refine gI (fun h6 => ?_) fun h6 => ?_
       ·refine gA ?_
        refine ats_ret (finB rfl ?_)
        refine (bd_false (fun h => ?_)).symm
        have hm := ((h.2.2 i (by omega)).2 j (by omega)).2 k (by omega)
        simp only [Bool.not_eq_true', Bool.and_eq_false_iff, decide_eq_false_iff_not] at h6
        exact h6.elim (fun h => h hm.1) (fun h => h hm.2)
       ·simp only [Bool.not_eq_false', Bool.and_eq_true, decide_eq_true_eq] at h6
        refine ats_skip ?_
        refine gB ?_
        refine ⟨k + 1,  ⟨by omega, fun a ha => by rcases Nat.lt_succ_iff_lt_or_eq.1 ha with h | rfl; exact hK' a h; exact h6⟩, by omega, .inl ⟨?_, rfl⟩⟩; simp only [leS, Nat.reduceEqDiff, ↓reduceIte, true_and, and_true]
        omega
      ·refine ats_exit (lq_x (ats_nil (bq_n ?_)))
       refine gB ?_
       refine ⟨j + 1,  ⟨by omega, fun a ha => by rcases Nat.lt_succ_iff_lt_or_eq.1 ha with h | rfl; exact hJ a h; exact ⟨by omega, fun k' hk2 => hK' k' (by omega)⟩⟩, by omega, .inl ⟨?_, rfl⟩⟩; simp only [leS, Nat.reduceEqDiff, ↓reduceIte, true_and, and_true]
       omega
    ·refine ats_exit (lq_x (ats_nil (bq_n ?_)))
     refine gB ?_
     refine ⟨i + 1,  ⟨by omega, fun a ha => by rcases Nat.lt_succ_iff_lt_or_eq.1 ha with h | rfl; exact hI a h; exact ⟨by omega, fun k' hk2 => hJ k' (by omega)⟩⟩, by omega, .inl ⟨?_, rfl⟩⟩; simp only [leS, Nat.reduceEqDiff, ↓reduceIte, true_and, and_true]
     omega
  ·refine ats_exit (lq_x ?_)
   refine gA ?_
   refine ats_ret (finB rfl ?_)
   exact (bd_true ⟨by omega, by omega, fun a ha => hI a (by omega)⟩).symm
end Go.Proofs.YtjpdkdepbkmebaaGreat
namespace Go.Proofs.YtjpdkdepbkmebaaGreat
open Go Go.Aw Go.Pl
theorem within_ok (n a b : Int) : PureCall Tryz.prog 38 [.int n, .int a, .int b] (.bool (decide (a ≤ n) && decide (n ≤ b))) := by
 refine PureCall.intro (n := 15) (rs := [.tmp 6]) Tryz.call38 Tryz.func38 rfl rfl rfl (by simp only [List.length_cons, List.length_nil]; omega) (fun cx hcx => ats_of ?_); simp only [argSlots, Nat.zero_add, Nat.reduceAdd]
 refine gA ?_
 refine gA ?_
 refine ats_ret (finB rfl ?_)
 rfl
theorem indexF1_ok (xs : List Int) (f : Nat) (caps : List AV) (p : Int → Bool) (hd : areData caps = true) (hf : ∀ x, PureCall Tryz.prog f (.int x :: caps) (.bool (p x))) : PureCall Tryz.prog 86 [.l1 xs, .fn f caps] (.int (fidx p xs)) := by
 refine PureCall.intro (n := 19) (rs := [.tmp 4]) Tryz.call86 Tryz.func86 rfl rfl rfl (by simp only [List.length_cons, List.length_nil]; omega) (fun cx hcx => ats_of ?_); simp only [argSlots, Nat.zero_add, Nat.reduceAdd]
 refine gA ?_
 refine ats_know 0 fun h0 => ?_; simp only [St.get, slotGet, Nat.reduceEqDiff, ↓reduceIte, if_true, fact, facts] at h0
 have hlen := h0.1
 refine gA ?_
 (repeat refine ats_seq ?_); refine ats_loop (fun k : Nat => ⟨[(0, .l1 xs), (1, .fn f caps), (7, .int xs.length), (8, .int k)], []⟩) (fun k => k ≤ xs.length ∧ ∀ i, i < k → p (xs.getD i 0) = false) (fun k => xs.length - k) 0 ⟨Nat.zero_le _, fun a h => absurd h (Nat.not_lt_zero a)⟩ (by
  refine And.intro ?_ rfl; simp only [leS, Nat.reduceEqDiff, ↓reduceIte, true_and, and_true]
  rfl) (fun k hk => ?_)
 obtain ⟨hk, hK'⟩ := hk
 refine gA ?_
 refine gI (fun h1 => ?_) fun h1 => ?_
 ·refine ats_skip ?_
  (repeat refine ats_seq ?_); refine ats_block ?_
  refine gA ?_
  refine gC fun K hK => ?_
  (repeat refine aI (hb := ?_))
  refine fcall_data (hf _) (by simp only [areData, isData, hd, Bool.and_true]) ?_
  simp only [go_sem, seval]
  refine hK _ ?_; clear hK K
  refine gI (fun h2 => ?_) fun h2 => ?_
  ·refine gA ?_
   refine ats_ret (finI rfl ?_)
   exact (fidx_some (d := 0) (by omega) hK' h2).symm
  ·refine ats_skip ?_
   refine gB ?_
   refine ⟨k + 1,  ⟨by omega, fun a ha => by rcases Nat.lt_succ_iff_lt_or_eq.1 ha with h | rfl; exact hK' a h; exact h2⟩, by omega, .inl ⟨?_, rfl⟩⟩; simp only [leS, Nat.reduceEqDiff, ↓reduceIte, true_and, and_true]
   omega
 ·refine ats_exit (lq_x ?_)
  refine gA ?_
  refine ats_ret (finI rfl ?_)
  exact (fidx_none (d := 0) (fun i hi => hK' i (by omega))).symm
theorem indexF2_ok (xs : List (List Int)) (f : Nat) (caps : List AV) (p : List Int → Bool) (hd : areData caps = true) (hf : ∀ x, PureCall Tryz.prog f (.l1 x :: caps) (.bool (p x))) : PureCall Tryz.prog 66 [.l2 xs, .fn f caps] (.int (fidx p xs)) := by
 refine PureCall.intro (n := 19) (rs := [.tmp 4]) Tryz.call66 Tryz.func66 rfl rfl rfl (by simp only [List.length_cons, List.length_nil]; omega) (fun cx hcx => ats_of ?_); simp only [argSlots, Nat.zero_add, Nat.reduceAdd]
 refine gA ?_
 refine ats_know 0 fun h0 => ?_; simp only [St.get, slotGet, Nat.reduceEqDiff, ↓reduceIte, if_true, fact, facts] at h0
 have hlen := h0.1
 refine gA ?_
 (repeat refine ats_seq ?_); refine ats_loop (fun k : Nat => ⟨[(0, .l2 xs), (1, .fn f caps), (7, .int xs.length), (8, .int k)], []⟩) (fun k => k ≤ xs.length ∧ ∀ i, i < k → p (xs.getD i []) = false) (fun k => xs.length - k) 0 ⟨Nat.zero_le _, fun a h => absurd h (Nat.not_lt_zero a)⟩ (by
  refine And.intro ?_ rfl; simp only [leS, Nat.reduceEqDiff, ↓reduceIte, true_and, and_true]
  rfl) (fun k hk => ?_)
 obtain ⟨hk, hK'⟩ := hk
 refine gA ?_
 refine gI (fun h1 => ?_) fun h1 => ?_
 ·refine ats_skip ?_
  (repeat refine ats_seq ?_); refine ats_block ?_
  refine gA ?_
  refine gC fun K hK => ?_
  (repeat refine aI (hb := ?_))
  refine fcall_data (hf _) (by simp only [areData, isData, hd, Bool.and_true]) ?_
  simp only [go_sem, seval]
  refine hK _ ?_; clear hK K
  refine gI (fun h2 => ?_) fun h2 => ?_
  ·refine gA ?_
   refine ats_ret (finI rfl ?_)
   exact (fidx_some (d := []) (by omega) hK' h2).symm
  ·refine ats_skip ?_
   refine gB ?_
   refine ⟨k + 1,  ⟨by omega, fun a ha => by rcases Nat.lt_succ_iff_lt_or_eq.1 ha with h | rfl; exact hK' a h; exact h2⟩, by omega, .inl ⟨?_, rfl⟩⟩; simp only [leS, Nat.reduceEqDiff, ↓reduceIte, true_and, and_true]
   omega
 ·refine ats_exit (lq_x ?_)
  refine gA ?_
  refine ats_ret (finI rfl ?_)
  exact (fidx_none (d := []) (fun i hi => hK' i (by omega))).symm
theorem containsF1_ok (xs : List Int) (f : Nat) (caps : List AV) (p : Int → Bool) (hd : areData caps = true) (hf : ∀ x, PureCall Tryz.prog f (.int x :: caps) (.bool (p x))) : PureCall Tryz.prog 67 [.l1 xs, .fn f caps] (.bool (xs.any p)) := by
 refine PureCall.intro (n := 9) (rs := [.tmp 4]) Tryz.call67 Tryz.func67 rfl rfl rfl (by simp only [List.length_cons, List.length_nil]; omega) (fun cx hcx => ats_of ?_); simp only [argSlots, Nat.zero_add, Nat.reduceAdd]
 refine gA ?_
 refine gC fun K hK => ?_
 refine fcall_data (indexF1_ok xs f caps p hd hf) (by simp only [areData, isData, hd, Bool.and_true]) ?_
 simp only [go_sem, seval]
 refine hK _ ?_; clear hK K
 refine ats_ret (finB rfl ?_)
 exact fidx_any
theorem containsF2_ok (xs : List (List Int)) (f : Nat) (caps : List AV) (p : List Int → Bool) (hd : areData caps = true) (hf : ∀ x, PureCall Tryz.prog f (.l1 x :: caps) (.bool (p x))) : PureCall Tryz.prog 40 [.l2 xs, .fn f caps] (.bool (xs.any p)) := by
 refine PureCall.intro (n := 9) (rs := [.tmp 4]) Tryz.call40 Tryz.func40 rfl rfl rfl (by simp only [List.length_cons, List.length_nil]; omega) (fun cx hcx => ats_of ?_); simp only [argSlots, Nat.zero_add, Nat.reduceAdd]
 refine gA ?_
 refine gC fun K hK => ?_
 refine fcall_data (indexF2_ok xs f caps p hd hf) (by simp only [areData, isData, hd, Bool.and_true]) ?_
 simp only [go_sem, seval]
 refine hK _ ?_; clear hK K
 refine ats_ret (finB rfl ?_)
 exact fidx_any
theorem allWithin1_ok (a b n : Int) : PureCall Tryz.prog 68 [.int n, .cptr [.int a] 0, .cptr [.int b] 0] (.bool (!(decide (a ≤ n) && decide (n ≤ b)))) := by
 refine PureCall.intro (n := 10) (rs := [.tmp 4]) Tryz.call68 Tryz.func68 rfl rfl rfl (by simp only [List.length_cons, List.length_nil]; omega) (fun cx hcx => ats_of ?_); simp only [argSlots, Nat.zero_add, Nat.reduceAdd]
 refine gA ?_
 refine gC fun K hK => ?_
 first | refine fcall_data (within_ok _ _ _) rfl ?_ | refine YR_intro (acall_data (within_ok _ _ _) rfl) ?_
 simp only [go_sem, seval]
 refine hK _ ?_; clear hK K
 refine ats_ret (finB rfl ?_)
 rfl
theorem allWithin_ok (xs : List Int) (a b : Int) : PureCall Tryz.prog 42 [.l1 xs, .int a, .int b] (.bool (!(xs.any fun n => !(decide (a ≤ n) && decide (n ≤ b))))) := by
 refine PureCall.intro (n := 11) (rs := [.tmp 6]) Tryz.call42 Tryz.func42 rfl rfl rfl (by simp only [List.length_cons, List.length_nil]; omega) (fun cx hcx => ats_of ?_); simp only [argSlots, Nat.zero_add, Nat.reduceAdd]
 refine gA ?_
 refine gC fun K hK => ?_
 first | refine fcall_free rfl rfl (containsF1_ok xs 68 [.cptr [.int a] 0, .cptr [.int b] 0] (fun n => !(decide (a ≤ n) && decide (n ≤ b))) rfl (fun n => allWithin1_ok a b n)) ?_ | refine YR_intro (acall_free rfl rfl (containsF1_ok xs 68 [.cptr [.int a] 0, .cptr [.int b] 0] (fun n => !(decide (a ≤ n) && decide (n ≤ b))) rfl (fun n => allWithin1_ok a b n))) ?_
 simp only [go_sem, seval]
 refine hK _ ?_; clear hK K
 refine ats_ret (finB rfl ?_)
 rfl
end Go.Proofs.YtjpdkdepbkmebaaGreat
namespace Go.Proofs.YtjpdkdepbkmebaaGreat
open Go Go.Aw Go.Pl
theorem isCube1_ok (r : List Int) (n : Int) : PureCall Tryz.prog 104 [.l1 r, .cptr [.int n] 0] (.bool (rowBad n r)) := by
 refine PureCall.intro (n := 13) (rs := [.tmp 3]) Tryz.call104 Tryz.func104 rfl rfl rfl (by simp only [List.length_cons, List.length_nil]; omega) (fun cx hcx => ats_of ?_); simp only [argSlots, Nat.zero_add, Nat.reduceAdd]
 refine gA ?_
 refine gC fun K hK => ?_
 first | refine YR_intro (fun _ => acall_data (allWithin_ok r 0 1000) rfl) ?_ | refine YR_intro (acall_data (allWithin_ok r 0 1000) rfl) ?_
 simp only [go_sem, seval]
 refine hK _ ?_; clear hK K
 refine ats_ret (finB rfl ?_)
 rfl
theorem isCube_ok (t : List (List (List Int))) : PureCall Tryz.prog 96 [.agg [.l3 t]] (.bool (bd (Cube t))) := by
 refine PureCall.intro (n := 32) (rs := [.tmp 2]) Tryz.call96 Tryz.func96 rfl rfl rfl (by simp only [List.length_cons, List.length_nil]; omega) (fun cx hcx => ats_of ?_); simp only [argSlots, Nat.zero_add, Nat.reduceAdd]
 refine gA ?_
 refine ats_know 0 fun h0 => ?_; simp only [St.get, slotGet, Nat.reduceEqDiff, ↓reduceIte, if_true, fact, facts] at h0
 have hlen := h0.1
 refine gA ?_
 refine gA ?_
 (repeat refine ats_seq ?_); refine ats_loop (fun k : Nat => ⟨[(0, .agg [.l3 t]), (1, .bptr 0 0), (3, .bptr 1 0), (10, .l3 t), (11, .int t.length), (12, .int k)], [(0, .bx [.l3 t]), (1, .bx [.int t.length])]⟩) (fun k => k ≤ t.length ∧ ∀ i, i < k → MatOk t.length (t.getD i [])) (fun k => t.length - k) 0 ⟨Nat.zero_le _, fun a h => absurd h (Nat.not_lt_zero a)⟩ (by
  refine And.intro ?_ rfl; simp only [leS, Nat.reduceEqDiff, ↓reduceIte, true_and, and_true]
  rfl) (fun k hk => ?_)
 obtain ⟨hk, hK'⟩ := hk
 refine gA ?_
 refine gI (fun h1 => ?_) fun h1 => ?_
 ·refine ats_skip ?_
  (repeat refine ats_seq ?_); refine ats_block ?_
  refine gB ?_
  refine gC fun K hK => ?_
  first | refine YR_intro (fun _ => acall_free rfl rfl (containsF2_ok (t.getD k []) 104 [.cptr [.int t.length] 0] (rowBad t.length) rfl (fun r => isCube1_ok r _))) ?_ | refine YR_intro (acall_free rfl rfl (containsF2_ok (t.getD k []) 104 [.cptr [.int t.length] 0] (rowBad t.length) rfl (fun r => isCube1_ok r _))) ?_
  simp only [go_sem, seval]
  refine hK _ ?_; clear hK K
  refine gI (fun h2 => ?_) fun h2 => ?_
  ·refine gA ?_
   refine ats_ret (finB rfl ?_)
   refine (bd_false fun hc => ?_).symm
   have hm := matOk_iff.1 (hc.2.2 k (by omega))
   rw [hm.2, hm.1] at h2
   simp at h2
  ·simp only [Bool.or_eq_false_iff, Bool.not_eq_false', decide_eq_true_eq, Int.natCast_inj] at h2
   have hm := matOk_iff.2 h2
   refine ats_skip ?_
   have hl1 := hlen.1
   refine gB ?_
   refine ⟨k + 1,  ⟨by omega, fun a ha => by rcases Nat.lt_succ_iff_lt_or_eq.1 ha with h | rfl; exact hK' a h; exact hm⟩, by omega, .inl ⟨?_, rfl⟩⟩; simp only [leS, Nat.reduceEqDiff, ↓reduceIte, true_and, and_true]
   omega
 ·refine ats_exit (lq_x ?_)
  refine gA ?_
  refine ats_ret (finB rfl ?_)
  by_cases hc : 1 ≤ t.length ∧ t.length ≤ 16
  ·rw [bd_true ⟨hc.1, hc.2, fun i hi => hK' i (by omega)⟩]
   simp only [Bool.and_eq_true, decide_eq_true_eq]; omega
  ·rw [bd_false fun h => hc ⟨h.1, h.2.1⟩]
   simp only [Bool.and_eq_false_iff, decide_eq_false_iff_not]; omega
end Go.Proofs.YtjpdkdepbkmebaaGreat
namespace Go.Proofs.YtjpdkdepbkmebaaGreat
open Go Go.Aw Go.Pl
theorem l03Dual_ok (t : List (List (List Int))) (hc : Cube t) (i : Nat) (hi : i < t.length) : PureCall Tryz.prog 98 [.l3 t, .int i] (.int (dual t i)) := by
 have hm := hc.mat hi
 have h16 := hc.2.1
 have h1 := hc.1
 refine PureCall.intro (n := 41) (rs := [.tmp 4]) Tryz.call98 Tryz.func98 rfl rfl rfl (by simp only [List.length_cons, List.length_nil]; omega) (fun cx hcx => ats_of ?_); simp only [argSlots, Nat.zero_add, Nat.reduceAdd]
 refine gA ?_
 refine gA ?_
 refine gA ?_
 (repeat refine ats_seq ?_); refine ats_loop (fun p : Nat × Int => ⟨[(0, .l3 t), (1, .int i), (5, .int p.2), (6, .int p.1)], []⟩) (fun p => p.1 ≤ t.length ∧ dualG (fun j => e3 t i j 0) ((List.range t.length).drop p.1) p.2 = dual t i) (fun p => t.length - p.1) (0, -1) ⟨Nat.zero_le _, rfl⟩ (by
  refine And.intro ?_ rfl; simp only [leS, Nat.reduceEqDiff, ↓reduceIte, true_and, and_true]
  rfl) (fun p hp => ?_)
 obtain ⟨k, out⟩ := p
 obtain ⟨hk, he⟩ := hp
 simp only [e3] at hk he
 refine gA ?_
 refine gI (fun hlt => ?_) fun hlt => ?_
 ·have hr := hc.row hi (show k < t.length by omega)
  rw [range_drop (show k < t.length by omega)] at he
  simp only [dualG, e3] at he
  refine ats_skip ?_
  (repeat refine ats_seq ?_); refine ats_block ?_
  (repeat refine ats_seq ?_); refine ats_block ?_
  refine gC fun K hK => ?_
  (repeat refine aI (hb := ?_))
  refine hK _ ?_; clear hK K
  refine gI (fun h2 => ?_) fun h2 => ?_
  ·simp only [Bool.or_eq_true, Bool.or_eq_false_iff, Bool.and_eq_true, Bool.and_eq_false_iff, decide_eq_true_eq, decide_eq_false_iff_not, Bool.not_eq_true', Bool.not_eq_false'] at h2
   refine gA ?_
   refine gB ?_
   rw [if_neg (by rw [h2.1]; decide), if_pos ⟨h2.2, h2.1⟩] at he
   refine ⟨(k + 1, (k : Int)),  ⟨by simp only; omega, he⟩, by omega, .inl ⟨?_, rfl⟩⟩; simp only [leS, Nat.reduceEqDiff, ↓reduceIte, true_and, and_true]
   omega
  ·refine gC fun K hK => ?_
   (repeat refine aI (hb := ?_))
   refine hK _ ?_; clear hK K
   refine gI (fun h3 => ?_) fun h3 => ?_
   ·refine gA ?_
    refine ats_ret (finI rfl ?_)
    rw [if_neg h3, if_neg (fun h4 => by
     simp only [h4.1, h4.2, decide_true, Bool.and_true] at h2; cases h2)] at he
    exact he
   ·refine ats_skip ?_
    refine gB ?_
    rw [if_pos h3] at he
    refine ⟨(k + 1, out),  ⟨by simp only; omega, he⟩, by omega, .inl ⟨?_, rfl⟩⟩; simp only [leS, Nat.reduceEqDiff, ↓reduceIte, true_and, and_true]
    omega
 ·rw [range_done (by omega)] at he
  refine ats_exit (lq_x ?_)
  refine gA ?_
  refine ats_ret (finI rfl ?_)
  exact he
theorem onlyOf_ok (t : List (List (List Int))) (hc : Cube t) (i : Nat) (hi : i < t.length) : PureCall Tryz.prog 110 [.agg [.l3 t], .int i] (.int (dual t i)) := by
 have hm := hc.mat hi
 have h16 := hc.2.1
 have h1 := hc.1
 refine PureCall.intro (n := 34) (rs := [.tmp 4]) Tryz.call110 Tryz.func110 rfl rfl rfl (by simp only [List.length_cons, List.length_nil]; omega) (fun cx hcx => ats_of ?_); simp only [argSlots, Nat.zero_add, Nat.reduceAdd]
 refine gA ?_
 refine gA ?_
 refine gB ?_
 (repeat refine ats_seq ?_); refine ats_loop (fun p : Nat × Int => ⟨[(0, .agg [.l3 t]), (2, .bptr 0 0), (5, .int p.2), (12, .l2 (t.getD i [])), (13, .int (t.getD i []).length), (14, .int p.1)], [(0, .bx [.l3 t])]⟩) (fun p => p.1 ≤ t.length ∧ dualG (fun j => e3 t i j 0) ((List.range t.length).drop p.1) p.2 = dual t i) (fun p => t.length - p.1) (0, -1) ⟨Nat.zero_le _, rfl⟩ (by
  refine And.intro ?_ rfl; simp only [leS, Nat.reduceEqDiff, ↓reduceIte, true_and, and_true]
  rfl) (fun p hp => ?_)
 obtain ⟨k, out⟩ := p
 obtain ⟨hk, he⟩ := hp
 simp only [e3] at hk he
 refine gA ?_
 refine gI (fun hlt => ?_) fun hlt => ?_
 ·have hr := hc.row hi (show k < t.length by omega)
  rw [range_drop (show k < t.length by omega)] at he
  simp only [dualG, e3] at he
  refine ats_skip ?_
  (repeat refine ats_seq ?_); refine ats_block ?_
  refine gB ?_
  refine gB ?_
  refine gI (fun h2 => ?_) fun h2 => ?_
  ·rw [if_pos h2] at he
   refine ats_exit (bq_x ?_)
   refine gB ?_
   refine ⟨(k + 1, out),  ⟨by simp only; omega, he⟩, by omega, .inl ⟨?_, rfl⟩⟩; simp only [leS, Nat.reduceEqDiff, ↓reduceIte, true_and, and_true]
   omega
  ·rw [if_neg h2] at he
   refine ats_skip ?_
   refine gC fun K hK => ?_
   (repeat refine aI (hb := ?_))
   refine hK _ ?_; clear hK K
   refine gI (fun h3 => ?_) fun h3 => ?_
   ·refine gA ?_
    refine ats_ret (finI rfl ?_)
    rw [if_neg (fun h4 => by
     simp only [Bool.or_eq_true, decide_eq_true_eq, Bool.not_eq_true', decide_eq_false_iff_not] at h3
     rcases h3 with h3 | h3
     ·omega
     ·exact h3 h4.2)] at he
    exact he
   ·simp only [Bool.or_eq_false_iff, decide_eq_false_iff_not, Bool.not_eq_false', decide_eq_true_eq] at h3
    refine ats_skip ?_
    refine gA ?_
    refine gB ?_
    rw [if_pos ⟨by omega, h3.2⟩] at he
    refine ⟨(k + 1, (k : Int)),  ⟨by simp only; omega, he⟩, by omega, .inl ⟨?_, rfl⟩⟩; simp only [leS, Nat.reduceEqDiff, ↓reduceIte, true_and, and_true]
    omega
 ·rw [range_done (by omega)] at he
  refine ats_exit (lq_x ?_)
  refine gA ?_
  refine ats_ret (finI rfl ?_)
  exact he
end Go.Proofs.YtjpdkdepbkmebaaGreat
namespace Go.Proofs.YtjpdkdepbkmebaaGreat
open Go Go.Aw Go.Pl
theorem delta_ok (i k : Nat) : PureCall Tryz.prog 109 [.int i, .int k] (.int (dl i k)) := by
 refine PureCall.intro (n := 8) (rs := [.tmp 4]) Tryz.call109 Tryz.func109 rfl rfl rfl (by simp only [List.length_cons, List.length_nil]; omega) (fun cx hcx => ats_of ?_); simp only [argSlots, Nat.zero_add, Nat.reduceAdd]
 refine gA ?_
 refine gA ?_
 refine gI (fun hc => ?_) fun hc => ?_
 ·refine gA ?_
  refine ats_ret (finI rfl ?_)
  simp only [dl, if_pos hc]
 ·refine ats_skip ?_
  refine gA ?_
  refine ats_ret (finI rfl ?_)
  simp only [dl, if_neg hc]
theorem unitFault_ok (t : List (List (List Int))) (hc : Cube t) : FreshCall Tryz.prog 105 [.agg [.l3 t]] (optA (unitF t)) := by
 have h16 := hc.2.1
 have h1 := hc.1
 refine FreshCall.intro (n := 52) (rs := [.tmp 2]) Tryz.call105 Tryz.func105 rfl rfl rfl (by simp only [List.length_cons, List.length_nil]; omega) (fun cx hcx => ats_of ?_); simp only [argSlots, Nat.zero_add, Nat.reduceAdd]
 refine gA ?_
 refine gA ?_
 (repeat refine ats_seq ?_); refine ats_loop (fun i : Nat => ⟨[(1, .bptr 0 0), (7, .int t.length), (8, .int i)], [(0, .bx [.l3 t])]⟩) (fun i => i ≤ t.length ∧ ∀ b, b < i → first t.length (unitG t b) = none) (fun i => t.length - i) 0 ⟨Nat.zero_le _, fun a h => absurd h (Nat.not_lt_zero a)⟩ (by refine And.intro ?_ rfl; simp only [leS, Nat.reduceEqDiff, ↓reduceIte, true_and, and_true]; rfl) (fun i hi => ?_); obtain ⟨hi, Hi⟩ := hi
 refine gA ?_
 refine gI (fun hli => ?_) fun hli => ?_
 ·refine ats_skip ?_
  (repeat refine ats_seq ?_); refine ats_block ?_
  refine gA ?_
  refine gA ?_
  (repeat refine ats_seq ?_); refine ats_loop (fun k : Nat => ⟨[(1, .bptr 0 0), (7, .int t.length), (8, .int i), (3, .int i), (13, .int t.length), (14, .int k)], [(0, .bx [.l3 t])]⟩) (fun k => k ≤ t.length ∧ ∀ b, b < k → unitG t i b = none) (fun k => t.length - k) 0 ⟨Nat.zero_le _, fun a h => absurd h (Nat.not_lt_zero a)⟩ (by refine And.intro ?_ rfl; simp only [leS, Nat.reduceEqDiff, ↓reduceIte, true_and, and_true]; rfl) (fun k hk => ?_); obtain ⟨hk, Hk⟩ := hk
  refine gA ?_
  refine gI (fun hlk => ?_) fun hlk => ?_
  ·have r1 := hc.row (i := 0) (j := i) (by omega) (by omega)
   have r2 := hc.row (i := i) (j := 0) (by omega) (by omega)
   have m1 := hc.mat (i := 0) (by omega)
   have m2 := hc.mat (i := i) (by omega)
   refine ats_skip ?_
   (repeat refine ats_seq ?_); refine ats_block ?_
   refine gA ?_
   (repeat refine ats_seq ?_); refine ats_pick (fix0 hcx) mixed (by kernel_rfl) fun K hK => ?_; simp only [go_sem, seval]
   (repeat refine aI (hb := ?_))
   first | refine fcall_data (delta_ok i k) rfl ?_ | refine YR_intro (acall_data (delta_ok i k) rfl) ?_
   simp only [go_sem, seval]
   (repeat refine aI (hb := ?_))
   first | refine YR_intro (fun _ => acall_data (delta_ok i k) rfl) ?_ | refine YR_intro (acall_data (delta_ok i k) rfl) ?_
   simp only [go_sem, seval]
   refine hK _ ?_; clear hK K
   refine gI (fun h2 => ?_) fun h2 => ?_
   ·simp only [Bool.or_eq_true, Bool.not_eq_true', decide_eq_false_iff_not] at h2
    refine gA ?_
    have e : unitF t = some [0, (i : Int), (k : Int)] := first_some (by omega) Hi (first_some (by omega) Hk (if_pos h2))
    exact ats_ret (ownV (is := [1]) rfl ⟨rfl, trivial⟩ (by rw [e]; rfl) (by simp))
   ·simp only [Bool.or_eq_false_iff, Bool.not_eq_false', decide_eq_true_eq] at h2
    refine ats_skip ?_
    refine gB ?_
    refine ⟨k + 1, ⟨by omega, fun a ha => by rcases Nat.lt_succ_iff_lt_or_eq.1 ha with h | rfl; exact Hk a h; exact if_neg (fun h => h.elim (fun h => h h2.1) (fun h => h h2.2))⟩, by omega, .inl ⟨?_, rfl⟩⟩; simp only [leS, Nat.reduceEqDiff, ↓reduceIte, true_and, and_true]; omega
  ·refine ats_exit (lq_x (ats_nil (bq_n ?_)))
   refine gB ?_
   refine ⟨i + 1, ⟨by omega, fun a ha => by rcases Nat.lt_succ_iff_lt_or_eq.1 ha with h | rfl; exact Hi a h; exact first_none (fun k hk => Hk k (by omega))⟩, by omega, .inl ⟨?_, rfl⟩⟩; simp only [leS, Nat.reduceEqDiff, ↓reduceIte, true_and, and_true]; omega
 ·refine ats_exit (lq_x ?_)
  refine gA ?_
  have e : unitF t = none := first_none (fun i hi => Hi i (by omega))
  exact ats_ret (ownV (is := []) rfl ⟨rfl, trivial⟩ (by rw [e]; rfl) (by simp))
theorem onlyOf_ok' (t : List (List (List Int))) (hc : Cube t) (i : Int) (h0 : 0 ≤ i) (hi : i < t.length) : PureCall Tryz.prog 110 [.agg [.l3 t], .int i] (.int (dual t i.toNat)) := by
 obtain ⟨k, rfl⟩ := Int.eq_ofNat_of_zero_le h0
 exact onlyOf_ok t hc k (by omega)
theorem dualFault_ok (t : List (List (List Int))) (hc : Cube t) : PureCall Tryz.prog 106 [.agg [.l3 t]] (.int (match dualF t with | some (_ :: i :: _) => i | _ => -1)) := by
 have h16 := hc.2.1
 have h1 := hc.1
 refine PureCall.intro (n := 25) (rs := [.tmp 2]) Tryz.call106 Tryz.func106 rfl rfl rfl (by simp only [List.length_cons, List.length_nil]; omega) (fun cx hcx => ats_of ?_); simp only [argSlots, Nat.zero_add, Nat.reduceAdd]
 refine gA ?_
 refine gA ?_
 (repeat refine ats_seq ?_); refine ats_loop (fun i : Nat => ⟨[(1, .bptr 0 0), (7, .int t.length), (8, .int i)], [(0, .bx [.l3 t])]⟩) (fun i => i ≤ t.length ∧ ∀ b, b < i → dualH t b = none) (fun i => t.length - i) 0 ⟨Nat.zero_le _, fun a h => absurd h (Nat.not_lt_zero a)⟩ (by refine And.intro ?_ rfl; simp only [leS, Nat.reduceEqDiff, ↓reduceIte, true_and, and_true]; rfl) (fun i hi => ?_); obtain ⟨hi, Hi⟩ := hi
 refine gA ?_
 refine gI (fun hli => ?_) fun hli => ?_
 ·have hdr := dual_range t i
  refine ats_skip ?_
  (repeat refine ats_seq ?_); refine ats_block ?_
  refine gA ?_
  refine gC fun K hK => ?_
  first | refine fcall_free rfl rfl (onlyOf_ok t hc i (by omega)) ?_ | refine YR_intro (acall_free rfl rfl (onlyOf_ok t hc i (by omega))) ?_
  simp only [go_sem, seval]
  refine hK _ ?_; clear hK K
  refine gC fun K hK => ?_
  refine YR_intro (fun hg => acall_free rfl rfl (onlyOf_ok' t hc (dual t i) (by simp only [decide_eq_false_iff_not] at hg; omega) hdr.2)) ?_
  simp only [go_sem, seval]
  refine hK _ ?_; clear hK K
  refine gI (fun h2 => ?_) fun h2 => ?_
  ·simp only [Bool.or_eq_true, decide_eq_true_eq, Bool.not_eq_true', decide_eq_false_iff_not] at h2
   refine gA ?_
   have e : dualF t = some [1, (i : Int)] := first_some (by omega) Hi (if_pos h2)
   refine ats_ret (finI rfl ?_)
   rw [e]
  ·simp only [Bool.or_eq_false_iff, decide_eq_false_iff_not, Bool.not_eq_false', decide_eq_true_eq] at h2
   refine ats_skip ?_
   refine gB ?_
   refine ⟨i + 1, ⟨by omega, fun a ha => by rcases Nat.lt_succ_iff_lt_or_eq.1 ha with h | rfl; exact Hi a h; exact if_neg (fun h => h.elim (fun h => h2.1 h) (fun h => h h2.2))⟩, by omega, .inl ⟨?_, rfl⟩⟩; simp only [leS, Nat.reduceEqDiff, ↓reduceIte, true_and, and_true]; omega
 ·refine ats_exit (lq_x ?_)
  refine gA ?_
  have e : dualF t = none := first_none (fun i hi => Hi i (by omega))
  refine ats_ret (finI rfl ?_)
  rw [e]
theorem duals_ok (t : List (List (List Int))) (hc : Cube t) : FreshCall Tryz.prog 111 [.agg [.l3 t]] (.l1 (ds t)) := by
 have h16 := hc.2.1
 have h1 := hc.1
 refine FreshCall.intro (n := 20) (rs := [.tmp 2]) Tryz.call111 Tryz.func111 rfl rfl rfl (by simp only [List.length_cons, List.length_nil]; omega) (fun cx hcx => ats_of ?_); simp only [argSlots, Nat.zero_add, Nat.reduceAdd]
 refine gA ?_
 refine gA ?_
 refine gA ?_
 (repeat refine ats_seq ?_); refine ats_loop (fun i : Nat => ⟨[(1, .bptr 0 0), (3, .ref 1 []), (8, .int t.length), (9, .int i)], [(0, .bx [.l3 t]), (1, .t1 ((List.range i).map (dual t)))]⟩) (fun i => i ≤ t.length) (fun i => t.length - i) 0 (Nat.zero_le _) (by
  refine And.intro ?_ rfl
  simp only [SlotsLe, St.get, slotGet, Nat.reduceEqDiff, ↓reduceIte, true_and, and_true, AV.int.injEq]
  rfl) (fun i hi => ?_)
 refine gA ?_
 refine gI (fun hli => ?_) fun hli => ?_
 ·have hl : ((List.range i).map (dual t)).length = i := by simp
  refine ats_skip ?_
  (repeat refine ats_seq ?_); refine ats_block ?_
  refine gA ?_
  refine gC fun K hK => ?_
  first | refine fcall_free rfl rfl (onlyOf_ok t hc i (by omega)) ?_ | refine YR_intro (acall_free rfl rfl (onlyOf_ok t hc i (by omega))) ?_
  simp only [go_sem, seval]
  (repeat refine And.intro (by (first | omega | (rw [hl]; omega))) ?_)
  refine hK _ ?_; clear hK K
  refine gB ?_
  refine ⟨i + 1, by omega, by omega, .inr ⟨[2], by simp only [killL, List.map_cons, List.map_nil, killA, killAs, qOf, rmT, killH, killT, List.filter_cons, List.filter_nil, List.contains_cons, List.contains_nil, SlotsLe, St.get, slotGet, Nat.reduceEqDiff, Nat.reduceBEq, Bool.or_false, Bool.or_true, Bool.false_and, Bool.not_true, Bool.not_false, Bool.false_eq_true, ↓reduceIte, if_true, if_false, AV.int.injEq, AV.bool.injEq, AV.l1.injEq, AV.l2.injEq, AV.l3.injEq, true_and, and_true]; omega, by simp only [killL, List.map_cons, List.map_nil, killA, killAs, qOf, rmT, killH, killT, List.filter_cons, List.filter_nil, List.contains_cons, List.contains_nil, SlotsLe, St.get, slotGet, Nat.reduceEqDiff, Nat.reduceBEq, Bool.or_false, Bool.or_true, Bool.false_and, Bool.not_true, Bool.not_false, Bool.false_eq_true, ↓reduceIte, if_true, if_false, AV.int.injEq, AV.bool.injEq, AV.l1.injEq, AV.l2.injEq, AV.l3.injEq, true_and, and_true]; simp only [List.range_succ, List.map_append, List.map_cons, List.map_nil]⟩⟩
 ·obtain rfl : i = t.length := by omega
  refine ats_exit (lq_x ?_)
  refine gA ?_
  exact ats_ret (ownV (is := [1]) rfl ⟨rfl, trivial⟩ rfl (by simp))
end Go.Proofs.YtjpdkdepbkmebaaGreat
namespace Go.Proofs.YtjpdkdepbkmebaaGreat
open Go Go.Aw Go.Pl
theorem turnFault_ok (t : List (List (List Int))) (hc : Cube t) (hd : dualF t = none) : FreshCall Tryz.prog 107 [.agg [.l3 t]] (optA (turnF t)) := by
 have h16 := hc.2.1
 have h1 := hc.1
 have hdl := ds_length t
 refine FreshCall.intro (n := 80) (rs := [.tmp 2]) Tryz.call107 Tryz.func107 rfl rfl rfl (by simp only [List.length_cons, List.length_nil]; omega) (fun cx hcx => ats_of ?_); simp only [argSlots, Nat.zero_add, Nat.reduceAdd]
 refine gA ?_
 refine gC fun K hK => ?_
 first | refine fcall_fresh rfl (duals_ok t hc) ?_ | refine YR_intro (acall_fresh rfl (duals_ok t hc)) ?_
 simp only [go_sem, seval]
 refine hK _ ?_; clear hK K
 refine gA ?_
 (repeat refine ats_seq ?_); refine ats_loop (fun i : Nat => ⟨[(1, .bptr 0 0), (3, .l1 (ds t)), (12, .int t.length), (13, .int i)], [(0, .bx [.l3 t])]⟩) (fun i => i ≤ t.length ∧ ∀ b, b < i → first t.length (fun j => first t.length (turnG t b j)) = none) (fun i => t.length - i) 0 ⟨Nat.zero_le _, fun a h => absurd h (Nat.not_lt_zero a)⟩ (by refine And.intro ?_ rfl; simp only [leS, Nat.reduceEqDiff, ↓reduceIte, true_and, and_true]; rfl) (fun i hi => ?_); obtain ⟨hi, Hi⟩ := hi
 refine gA ?_
 refine gI (fun hli => ?_) fun hli => ?_
 ·refine ats_skip ?_
  (repeat refine ats_seq ?_); refine ats_block ?_
  refine gA ?_
  refine gA ?_
  (repeat refine ats_seq ?_); refine ats_loop (fun j : Nat => ⟨[(1, .bptr 0 0), (3, .l1 (ds t)), (12, .int t.length), (13, .int i), (4, .int i), (18, .int t.length), (19, .int j)], [(0, .bx [.l3 t])]⟩) (fun j => j ≤ t.length ∧ ∀ b, b < j → first t.length (turnG t i b) = none) (fun j => t.length - j) 0 ⟨Nat.zero_le _, fun a h => absurd h (Nat.not_lt_zero a)⟩ (by refine And.intro ?_ rfl; simp only [leS, Nat.reduceEqDiff, ↓reduceIte, true_and, and_true]; rfl) (fun j hj => ?_); obtain ⟨hj, Hj⟩ := hj
  refine gA ?_
  refine gI (fun hlj => ?_) fun hlj => ?_
  ·refine ats_skip ?_
   (repeat refine ats_seq ?_); refine ats_block ?_
   refine gA ?_
   refine gA ?_
   (repeat refine ats_seq ?_); refine ats_loop (fun k : Nat => ⟨[(1, .bptr 0 0), (3, .l1 (ds t)), (12, .int t.length), (13, .int i), (4, .int i), (18, .int t.length), (19, .int j), (5, .int j), (24, .int t.length), (25, .int k)], [(0, .bx [.l3 t])]⟩) (fun k => k ≤ t.length ∧ ∀ b, b < k → turnG t i j b = none) (fun k => t.length - k) 0 ⟨Nat.zero_le _, fun a h => absurd h (Nat.not_lt_zero a)⟩ (by refine And.intro ?_ rfl; simp only [leS, Nat.reduceEqDiff, ↓reduceIte, true_and, and_true]; rfl) (fun k hk => ?_); obtain ⟨hk, Hk⟩ := hk
   refine gA ?_
   refine gI (fun hlk => ?_) fun hlk => ?_
   ·have di := dual_ok hd (show i < t.length by omega)
    have dj := dual_ok hd (show j < t.length by omega)
    have gi := ds_get (show i < t.length by omega)
    have gj := ds_get (show j < t.length by omega)
    have mi := hc.mat (show i < t.length by omega)
    have mk := hc.mat (show k < t.length by omega)
    have md := hc.mat di.2.1
    have r1 := hc.row (show i < t.length by omega) (show j < t.length by omega)
    have r2 := hc.row di.2.1 (show k < t.length by omega)
    have r3 := hc.row (show k < t.length by omega) dj.2.1
    refine ats_skip ?_
    (repeat refine ats_seq ?_); refine ats_block ?_
    refine gA ?_
    refine gB ?_
    (repeat refine ats_seq ?_); refine ats_pick (fix0 hcx) mixed (by kernel_rfl) fun K hK => ?_; simp only [go_sem, seval]
    simp only [gi, gj]
    (repeat refine aI (hb := ?_))
    refine hK _ ?_; clear hK K
    refine gI (fun h2 => ?_) fun h2 => ?_
    ·simp only [Bool.or_eq_true, Bool.not_eq_true', decide_eq_false_iff_not] at h2
     refine gA ?_
     have e : turnF t = some [2, (i : Int), (j : Int), (k : Int)] := first_some (by omega) Hi (first_some (by omega) Hj (first_some (by omega) Hk (if_pos h2)))
     exact ats_ret (ownV (is := [1]) rfl ⟨rfl, trivial⟩ (by rw [e]; rfl) (by simp))
    ·simp only [Bool.or_eq_false_iff, Bool.not_eq_false', decide_eq_true_eq] at h2
     refine ats_skip ?_
     refine gB ?_
     refine ⟨k + 1, ⟨by omega, fun a ha => by rcases Nat.lt_succ_iff_lt_or_eq.1 ha with h | rfl; exact Hk a h; exact if_neg (fun h => h.elim (fun h => h h2.1) (fun h => h h2.2))⟩, by omega, .inl ⟨?_, rfl⟩⟩; simp only [leS, Nat.reduceEqDiff, ↓reduceIte, true_and, and_true]; omega
   ·refine ats_exit (lq_x (ats_nil (bq_n ?_)))
    refine gB ?_
    refine ⟨j + 1, ⟨by omega, fun a ha => by rcases Nat.lt_succ_iff_lt_or_eq.1 ha with h | rfl; exact Hj a h; exact first_none (fun k hk => Hk k (by omega))⟩, by omega, .inl ⟨?_, rfl⟩⟩; simp only [leS, Nat.reduceEqDiff, ↓reduceIte, true_and, and_true]; omega
  ·refine ats_exit (lq_x (ats_nil (bq_n ?_)))
   refine gB ?_
   refine ⟨i + 1, ⟨by omega, fun a ha => by rcases Nat.lt_succ_iff_lt_or_eq.1 ha with h | rfl; exact Hi a h; exact first_none (fun k hk => Hj k (by omega))⟩, by omega, .inl ⟨?_, rfl⟩⟩; simp only [leS, Nat.reduceEqDiff, ↓reduceIte, true_and, and_true]; omega
 ·refine ats_exit (lq_x ?_)
  refine gA ?_
  have e : turnF t = none := first_none (fun i hi => Hi i (by omega))
  exact ats_ret (ownV (is := []) rfl ⟨rfl, trivial⟩ (by rw [e]; rfl) (by simp))
theorem bracketFault_ok (t : List (List (List Int))) (hc : Cube t) : FreshCall Tryz.prog 108 [.agg [.l3 t]] (optA (brackF t)) := by
 have h16 := hc.2.1
 have h1 := hc.1
 refine FreshCall.intro (n := 97) (rs := [.tmp 2]) Tryz.call108 Tryz.func108 rfl rfl rfl (by simp only [List.length_cons, List.length_nil]; omega) (fun cx hcx => ats_of ?_); simp only [argSlots, Nat.zero_add, Nat.reduceAdd]
 refine gA ?_
 refine gA ?_
 (repeat refine ats_seq ?_); refine ats_loop (fun i : Nat => ⟨[(1, .bptr 0 0), (13, .l3 t), (14, .int t.length), (15, .int i)], [(0, .bx [.l3 t])]⟩) (fun i => i ≤ t.length ∧ ∀ b, b < i → first t.length (fun j => first t.length fun k => first t.length (brackG t b j k)) = none) (fun i => t.length - i) 0 ⟨Nat.zero_le _, fun a h => absurd h (Nat.not_lt_zero a)⟩ (by refine And.intro ?_ rfl; simp only [leS, Nat.reduceEqDiff, ↓reduceIte, true_and, and_true]; rfl) (fun i hi => ?_); obtain ⟨hi, Hi⟩ := hi
 refine gA ?_
 refine gI (fun hli => ?_) fun hli => ?_
 ·have mi := hc.mat (show i < t.length by omega)
  refine ats_skip ?_
  (repeat refine ats_seq ?_); refine ats_block ?_
  refine gB ?_
  refine gA ?_
  (repeat refine ats_seq ?_); refine ats_loop (fun j : Nat => ⟨[(1, .bptr 0 0), (13, .l3 t), (14, .int t.length), (15, .int i), (3, .int i), (4, .l2 (t.getD i [])), (21, .l3 t), (22, .int t.length), (23, .int j)], [(0, .bx [.l3 t])]⟩) (fun j => j ≤ t.length ∧ ∀ b, b < j → first t.length (fun k => first t.length (brackG t i b k)) = none) (fun j => t.length - j) 0 ⟨Nat.zero_le _, fun a h => absurd h (Nat.not_lt_zero a)⟩ (by refine And.intro ?_ rfl; simp only [leS, Nat.reduceEqDiff, ↓reduceIte, true_and, and_true]; rfl) (fun j hj => ?_); obtain ⟨hj, Hj⟩ := hj
  refine gA ?_
  refine gI (fun hlj => ?_) fun hlj => ?_
  ·have mj := hc.mat (show j < t.length by omega)
   have rij := hc.row (show i < t.length by omega) (show j < t.length by omega)
   refine ats_skip ?_
   (repeat refine ats_seq ?_); refine ats_block ?_
   refine gB ?_
   refine gA ?_
   (repeat refine ats_seq ?_); refine ats_loop (fun k : Nat => ⟨[(1, .bptr 0 0), (13, .l3 t), (14, .int t.length), (15, .int i), (3, .int i), (4, .l2 (t.getD i [])), (21, .l3 t), (22, .int t.length), (23, .int j), (5, .int j), (6, .l2 (t.getD j [])), (30, .int t.length), (31, .int k)], [(0, .bx [.l3 t])]⟩) (fun k => k ≤ t.length ∧ ∀ b, b < k → first t.length (brackG t i j b) = none) (fun k => t.length - k) 0 ⟨Nat.zero_le _, fun a h => absurd h (Nat.not_lt_zero a)⟩ (by refine And.intro ?_ rfl; simp only [leS, Nat.reduceEqDiff, ↓reduceIte, true_and, and_true]; rfl) (fun k hk => ?_); obtain ⟨hk, Hk⟩ := hk
   refine gA ?_
   refine gI (fun hlk => ?_) fun hlk => ?_
   ·have rjk := hc.row (show j < t.length by omega) (show k < t.length by omega)
    refine ats_skip ?_
    (repeat refine ats_seq ?_); refine ats_block ?_
    refine gA ?_
    refine gA ?_
    (repeat refine ats_seq ?_); refine ats_loop (fun l : Nat => ⟨[(1, .bptr 0 0), (13, .l3 t), (14, .int t.length), (15, .int i), (3, .int i), (4, .l2 (t.getD i [])), (21, .l3 t), (22, .int t.length), (23, .int j), (5, .int j), (6, .l2 (t.getD j [])), (30, .int t.length), (31, .int k), (7, .int k), (36, .int t.length), (37, .int l)], [(0, .bx [.l3 t])]⟩) (fun l => l ≤ t.length ∧ ∀ b, b < l → brackG t i j k b = none) (fun l => t.length - l) 0 ⟨Nat.zero_le _, fun a h => absurd h (Nat.not_lt_zero a)⟩ (by refine And.intro ?_ rfl; simp only [leS, Nat.reduceEqDiff, ↓reduceIte, true_and, and_true]; rfl) (fun l hl => ?_); obtain ⟨hl, Hl⟩ := hl
    refine gA ?_
    refine gI (fun hll => ?_) fun hll => ?_
    ·refine ats_skip ?_
     (repeat refine ats_seq ?_); refine ats_block ?_
     refine gA ?_
     refine gA ?_
     refine gA ?_
     (repeat refine ats_seq ?_); refine ats_loop (fun m : Nat => ⟨[(1, .bptr 0 0), (13, .l3 t), (14, .int t.length), (15, .int i), (3, .int i), (4, .l2 (t.getD i [])), (21, .l3 t), (22, .int t.length), (23, .int j), (5, .int j), (6, .l2 (t.getD j [])), (30, .int t.length), (31, .int k), (7, .int k), (36, .int t.length), (37, .int l), (8, .int l), (9, .int (sumTo (brL t i j k l) m)), (10, .int (sumTo (brR t i j k l) m)), (42, .int t.length), (43, .int m)], [(0, .bx [.l3 t])]⟩) (fun m => m ≤ t.length) (fun m => t.length - m) 0 (Nat.zero_le _) (by
      refine And.intro ?_ rfl; simp only [leS, Nat.reduceEqDiff, ↓reduceIte, true_and, and_true]
      exact ⟨rfl, rfl, rfl⟩) (fun m hm => ?_)
     refine gA ?_
     refine gI (fun hlm => ?_) fun hlm => ?_
     ·have mm := hc.mat (show m < t.length by omega)
      have rmk := hc.row (show m < t.length by omega) (show k < t.length by omega)
      have rim := hc.row (show i < t.length by omega) (show m < t.length by omega)
      have bL := brL_bd hc (i := i) (j := j) (k := k) (l := l) (by omega) (by omega) (by omega) (by omega)
      have bR := brR_bd hc (i := i) (j := j) (k := k) (l := l) (by omega) (by omega) (by omega) (by omega)
      have sL := sumTo_le (n := m) (fun x hx => bL x (by omega))
      have sR := sumTo_le (n := m) (fun x hx => bR x (by omega))
      have cL := bL m (by omega)
      have cR := bR m (by omega)
      simp only [brL, brR, e3] at cL cR
      refine ats_skip ?_
      (repeat refine ats_seq ?_); refine ats_block ?_
      refine gA ?_
      (repeat refine ats_seq ?_); refine ats_pick (fix0 hcx) mixed (by kernel_rfl) fun K hK => ?_; simp only [go_sem, seval]; (repeat refine aI (hb := ?_)); refine hK _ ?_; clear hK K
      (repeat refine ats_seq ?_); refine ats_pick (fix0 hcx) mixed (by kernel_rfl) fun K hK => ?_; simp only [go_sem, seval]; (repeat refine aI (hb := ?_)); refine hK _ ?_; clear hK K
      refine gB ?_
      refine ⟨m + 1,  by omega, by omega, .inl ⟨?_, rfl⟩⟩; simp only [leS, Nat.reduceEqDiff, ↓reduceIte, true_and, and_true]
      exact ⟨rfl, rfl, by omega⟩
     ·obtain rfl : m = t.length := by omega
      refine ats_exit (lq_x ?_)
      refine gA ?_
      refine gI (fun hne => ?_) fun hne => ?_
      ·refine gA ?_
       have e : brackF t = some [3, (i : Int), (j : Int), (k : Int), (l : Int)] := first_some (by omega) Hi (first_some (by omega) Hj (first_some (by omega) Hk (first_some (by omega) Hl (if_pos hne))))
       exact ats_ret (ownV (is := [1]) rfl ⟨rfl, trivial⟩ (by rw [e]; rfl) (by simp))
      ·refine ats_skip ?_
       refine gB ?_
       refine ⟨l + 1, ⟨by omega, fun a ha => by rcases Nat.lt_succ_iff_lt_or_eq.1 ha with h | rfl; exact Hl a h; exact if_neg (fun h => h hne)⟩, by omega, .inl ⟨?_, rfl⟩⟩; simp only [leS, Nat.reduceEqDiff, ↓reduceIte, true_and, and_true]; omega
    ·refine ats_exit (lq_x (ats_nil (bq_n ?_)))
     refine gB ?_
     refine ⟨k + 1, ⟨by omega, fun a ha => by rcases Nat.lt_succ_iff_lt_or_eq.1 ha with h | rfl; exact Hk a h; exact first_none (fun k hk => Hl k (by omega))⟩, by omega, .inl ⟨?_, rfl⟩⟩; simp only [leS, Nat.reduceEqDiff, ↓reduceIte, true_and, and_true]; omega
   ·refine ats_exit (lq_x (ats_nil (bq_n ?_)))
    refine gB ?_
    refine ⟨j + 1, ⟨by omega, fun a ha => by rcases Nat.lt_succ_iff_lt_or_eq.1 ha with h | rfl; exact Hj a h; exact first_none (fun k' hk' => Hk k' (by omega))⟩, by omega, .inl ⟨?_, rfl⟩⟩; simp only [leS, Nat.reduceEqDiff, ↓reduceIte, true_and, and_true]; omega
  ·refine ats_exit (lq_x (ats_nil (bq_n ?_)))
   refine gB ?_
   refine ⟨i + 1, ⟨by omega, fun a ha => by rcases Nat.lt_succ_iff_lt_or_eq.1 ha with h | rfl; exact Hi a h; exact first_none (fun k hk => Hj k (by omega))⟩, by omega, .inl ⟨?_, rfl⟩⟩; simp only [leS, Nat.reduceEqDiff, ↓reduceIte, true_and, and_true]; omega
 ·refine ats_exit (lq_x ?_)
  refine gA ?_
  have e : brackF t = none := first_none (fun i hi => Hi i (by omega))
  exact ats_ret (ownV (is := []) rfl ⟨rfl, trivial⟩ (by rw [e]; rfl) (by simp))
theorem fault_ok (t : List (List (List Int))) (hc : Cube t) : FreshCall Tryz.prog 97 [.agg [.l3 t]] (optA (faultF t)) := by
 have hku := unitFault_ok t hc
 have hkd := dualFault_ok t hc
 refine FreshCall.intro (n := 24) (rs := [.tmp 2]) Tryz.call97 Tryz.func97 rfl rfl rfl (by simp only [List.length_cons, List.length_nil]; omega) (fun cx hcx => ats_of ?_); simp only [argSlots, Nat.zero_add, Nat.reduceAdd]
 refine gA ?_
 cases hu : unitF t with
 | some u =>
  rw [hu] at hku
  have hne := unitF_ne hu
  refine gC fun K hK => ?_
  refine fcall_own rfl (hku) rfl ?_; simp only [go_sem, seval]
  refine hK _ ?_; clear hK K
  refine gB ?_
  (repeat refine ats_seq ?_); refine ats_yes rfl trivial ?_
  refine gA ?_
  have e : faultF t = some u := by simp only [faultF, orE, hu]
  exact ats_ret (ownV (is := [1]) rfl ⟨rfl, trivial⟩ (by rw [e]; rfl) (by simp))
 | none =>
  rw [hu] at hku
  refine gC fun K hK => ?_
  refine fcall_own rfl (hku) rfl ?_; simp only [go_sem, seval]
  refine hK _ ?_; clear hK K
  refine gA ?_
  (repeat refine ats_seq ?_); refine ats_no rfl trivial ?_
  refine ats_skip ?_
  cases hd : dualF t with
  | some d =>
   obtain ⟨i, rfl⟩ := dualF_shape hd
   rw [hd] at hkd
   refine gC fun K hK => ?_
   first | refine fcall_free rfl rfl (hkd) ?_ | refine YR_intro (acall_free rfl rfl (hkd)) ?_
   simp only [go_sem, seval]
   refine hK _ ?_; clear hK K
   refine gA ?_
   refine gI (fun h2 => ?_) fun h2 => ?_
   ·refine gA ?_
    have e : faultF t = some [1, (i : Int)] := by simp only [faultF, orE, hu, hd]
    exact ats_ret (ownV (is := [1]) rfl ⟨rfl, trivial⟩ (by rw [e]; rfl) (by simp))
   ·exact absurd (Int.natCast_nonneg i) h2
  | none =>
   rw [hd] at hkd
   have hkt := turnFault_ok t hc hd
   refine gC fun K hK => ?_
   first | refine fcall_free rfl rfl (hkd) ?_ | refine YR_intro (acall_free rfl rfl (hkd)) ?_
   simp only [go_sem, seval]
   refine hK _ ?_; clear hK K
   refine gA ?_
   refine gI (fun h2 => ?_) fun h2 => ?_
   ·exact absurd h2 (by decide)
   ·refine ats_skip ?_
    cases ht : turnF t with
    | some u =>
     rw [ht] at hkt
     have hne := turnF_ne ht
     refine gC fun K hK => ?_
     refine fcall_own rfl (hkt) rfl ?_; simp only [go_sem, seval]
     refine hK _ ?_; clear hK K
     refine gB ?_
     (repeat refine ats_seq ?_); refine ats_yes rfl trivial ?_
     refine gA ?_
     have e : faultF t = some u := by simp only [faultF, orE, hu, hd, ht]
     exact ats_ret (ownV (is := [1]) rfl ⟨rfl, trivial⟩ (by rw [e]; rfl) (by simp))
    | none =>
     rw [ht] at hkt
     refine gC fun K hK => ?_
     refine fcall_own rfl (hkt) rfl ?_; simp only [go_sem, seval]
     refine hK _ ?_; clear hK K
     refine gA ?_
     (repeat refine ats_seq ?_); refine ats_no rfl trivial ?_
     refine ats_skip ?_
     have hkb := bracketFault_ok t hc
     have e : faultF t = brackF t := by simp only [faultF, orE, hu, hd, ht]
     cases hb : brackF t with
     | some u =>
      rw [hb] at hkb e
      refine gC fun K hK => ?_
      refine fcall_own rfl (hkb) rfl ?_; simp only [go_sem, seval]
      refine hK _ ?_; clear hK K
      exact ats_ret (ownV (is := [1]) rfl ⟨rfl, trivial⟩ (by rw [e]; rfl) (by simp))
     | none =>
      rw [hb] at hkb e
      refine gC fun K hK => ?_
      refine fcall_own rfl (hkb) rfl ?_; simp only [go_sem, seval]
      refine hK _ ?_; clear hK K
      exact ats_ret (ownV (is := []) rfl ⟨rfl, trivial⟩ (by rw [e]; rfl) (by simp))
theorem IsRing_ok (t : List (List (List Int))) : PureCall Tryz.prog 64 [.agg [.l3 t]] (.bool (isRing t)) := by
 have hk := isCube_ok t
 refine PureCall.intro (n := 10) (rs := [.tmp 2]) Tryz.call64 Tryz.func64 rfl rfl rfl (by simp only [List.length_cons, List.length_nil]; omega) (fun cx hcx => ats_of ?_); simp only [argSlots, Nat.zero_add, Nat.reduceAdd]
 refine gA ?_
 by_cases hc : Cube t
 ·rw [bd_true hc] at hk
  have hf := fault_ok t hc
  cases e : faultF t with
  | some u =>
   rw [e] at hf
   simp only [optA] at hf
   have hne := faultF_ne e
   refine gC fun K hK => ?_
   first | refine fcall_free rfl rfl (hk) ?_ | refine YR_intro (acall_free rfl rfl (hk)) ?_
   simp only [go_sem, seval]
   first | refine YR_intro (fun _ => acall_fresh rfl (hf)) ?_ | refine YR_intro (acall_fresh rfl (hf)) ?_
   simp only [go_sem, seval]
   (repeat refine aI (hb := ?_))
   refine hK _ ?_; clear hK K
   refine ats_ret (finB rfl ?_)
   simp only [isRing]
   rw [bd_false (fun h => by rw [e] at h; cases h.2)]
  | none =>
   rw [e] at hf
   simp only [optA] at hf
   refine gC fun K hK => ?_
   first | refine fcall_free rfl rfl (hk) ?_ | refine YR_intro (acall_free rfl rfl (hk)) ?_
   simp only [go_sem, seval]
   first | refine YR_intro (fun _ => acall_fresh rfl (hf)) ?_ | refine YR_intro (acall_fresh rfl (hf)) ?_
   simp only [go_sem, seval]
   refine hK _ ?_; clear hK K
   refine ats_ret (finB rfl ?_)
   simp only [isRing]
   rw [bd_true ⟨hc, e⟩]
 ·rw [bd_false hc] at hk
  refine gC fun K hK => ?_
  first | refine fcall_free rfl rfl (hk) ?_ | refine YR_intro (acall_free rfl rfl (hk)) ?_
  simp only [go_sem, seval]
  refine YR_intro (v := .nil) (by first | trivial | (intro h; cases h)) ?_
  simp only [go_sem, seval]
  refine hK _ ?_; clear hK K
  refine ats_ret (finB rfl ?_)
  simp only [isRing]
  rw [bd_false (fun h => hc h.1)]
end Go.Proofs.YtjpdkdepbkmebaaGreat
