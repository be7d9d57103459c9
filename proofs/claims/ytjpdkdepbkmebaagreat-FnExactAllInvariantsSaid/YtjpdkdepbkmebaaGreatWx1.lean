import Derived.Test.YtjpdkdepbkmebaaGreatTy
import Derived.Test.YtjpdkdepbkmebaaGreatLib3
import Derived.Test.YtjpdkdepbkmebaaGreatPl1
set_option linter.unusedSimpArgs false
set_option linter.unusedVariables false
namespace Go.Proofs.YtjpdkdepbkmebaaGreat
open Go Go.Aw
theorem mixed : Tryz.prog.follows .mixedOrders = true := by kernel_rfl
theorem eqInt64S_ok (xs ys : List Int) : PureCall Tryz.prog 28 [.l1 xs, .l1 ys] (.bool (decide (xs = ys))) := by
 refine PureCall.intro (n := 26) (rs := [.tmp 4]) Tryz.call28 Tryz.func28 rfl rfl rfl (by simp only [List.length_cons, List.length_nil]; omega) (fun cx hcx => ats_of ?_); simp only [argSlots, Nat.zero_add, Nat.reduceAdd]
 refine gA ?_
 refine ats_know 0 fun h0 => ?_; simp only [St.get, slotGet, Nat.reduceEqDiff, ↓reduceIte, if_true, fact, facts] at h0
 refine gA ?_
 refine gI (fun hc => ?_) fun hc => ?_
 ·refine gA ?_
  refine ats_ret (finB rfl ?_)
  simp only [Bool.false_eq, decide_eq_false_iff_not]
  exact fun e => hc (by rw [e])
 ·refine ats_skip ?_
  refine gA ?_
  (repeat refine ats_seq ?_); refine ats_loop (fun k : Nat => ⟨[(0, .l1 xs), (1, .l1 ys), (5, .int k)], []⟩) (fun k => k ≤ xs.length ∧ xs.take k = ys.take k) (fun k => xs.length - k) 0 ⟨Nat.zero_le _, rfl⟩ (by
   refine And.intro ?_ rfl; simp only [leS, Nat.reduceEqDiff, ↓reduceIte, true_and, and_true]
   rfl) (fun k hk => ?_)
  refine gA ?_
  refine gI (fun h1 => ?_) fun h1 => ?_
  ·refine ats_skip ?_
   (repeat refine ats_seq ?_); refine ats_block ?_
   (repeat refine ats_seq ?_); refine ats_pick (fix0 hcx) mixed (by kernel_rfl) fun K hK => ?_; simp only [go_sem, seval]; (repeat refine aI (hb := ?_)); refine hK _ ?_; clear hK K
   refine gI (fun h2 => ?_) fun h2 => ?_
   ·refine gA ?_
    refine ats_ret (finB rfl ?_)
    simp only [Bool.false_eq, decide_eq_false_iff_not]
    exact ne_of_getD h2
   ·refine ats_skip ?_
    have := h0.1
    refine gB ?_
    refine ⟨k + 1,  ⟨by omega, take_succ_eq (by omega) (by omega) hk.2 h2⟩, by omega, .inl ⟨?_, rfl⟩⟩; simp only [leS, Nat.reduceEqDiff, ↓reduceIte, true_and, and_true]
    omega
  ·refine ats_exit (lq_x ?_)
   refine gA ?_
   refine ats_ret (finB rfl ?_)
   have e : k = xs.length := by omega
   have h := hk.2
   rw [List.take_of_length_le (by omega), List.take_of_length_le (by omega)] at h
   simp only [h, decide_true]
end Go.Proofs.YtjpdkdepbkmebaaGreat
namespace Go.Proofs.YtjpdkdepbkmebaaGreat
open Go Go.Aw Go.Pl
theorem szInt64S_ok (xs : List Int) (l : Int) (hl : 0 ≤ l) : PureCall Tryz.prog 14 [.l1 xs, .int l] (.int (sz1 xs l)) := by
 refine PureCall.intro (n := 12) (rs := [.tmp 4]) Tryz.call14 Tryz.func14 rfl rfl rfl (by simp only [List.length_cons, List.length_nil]; omega) (fun cx hcx => ats_of ?_); simp only [argSlots, Nat.zero_add, Nat.reduceAdd]
 refine gA ?_
 refine ats_know 0 fun h0 => ?_; simp only [St.get, slotGet, Nat.reduceEqDiff, ↓reduceIte, if_true, fact, facts] at h0
 refine ats_know 1 fun h1 => ?_; simp only [St.get, slotGet, Nat.reduceEqDiff, ↓reduceIte, if_true, fact, facts] at h1
 have := h0.1; have := h1.1; have := h1.2
 refine gB ?_
 refine gA ?_
 refine gI (fun hc => ?_) fun hc => ?_
 ·refine gA ?_
  refine ats_ret (finI rfl ?_)
  simp only [sz1, if_pos hc]
 ·refine ats_skip ?_
  refine gA ?_
  refine ats_ret (finI rfl ?_)
  simp only [sz1, if_neg hc]
theorem szInt64SS_ok (xs : List (List Int)) (l : Int) (hl : 0 ≤ l) : PureCall Tryz.prog 13 [.l2 xs, .int l] (.int (sz2 xs l)) := by
 refine PureCall.intro (n := 27) (rs := [.tmp 4]) Tryz.call13 Tryz.func13 rfl rfl rfl (by simp only [List.length_cons, List.length_nil]; omega) (fun cx hcx => ats_of ?_); simp only [argSlots, Nat.zero_add, Nat.reduceAdd]
 refine gA ?_
 refine ats_know 0 fun h0 => ?_; simp only [St.get, slotGet, Nat.reduceEqDiff, ↓reduceIte, if_true, fact, facts] at h0
 refine ats_know 1 fun h1 => ?_; simp only [St.get, slotGet, Nat.reduceEqDiff, ↓reduceIte, if_true, fact, facts] at h1
 have := h0.1; have := h1.1; have := h1.2
 refine gB ?_
 refine gA ?_
 refine gI (fun hc => ?_) fun hc => ?_
 ·refine gA ?_
  refine ats_ret (finI rfl ?_)
  simp only [sz2, sz0, if_pos hc]
 ·refine ats_skip ?_
  refine gA ?_
  (repeat refine ats_seq ?_); refine ats_loop (fun p : Nat × Int => ⟨[(0, .l2 xs), (1, .int p.2), (5, .int p.1)], []⟩) (fun p => p.1 ≤ xs.length ∧ 0 ≤ p.2 ∧ szs sz1 (xs.drop p.1) p.2 = sz2 xs l) (fun p => xs.length - p.1) (0, l - xs.length) ⟨Nat.zero_le _, by omega, by simp only [sz2, sz0, if_neg hc, List.drop_zero]⟩ (by
   refine And.intro ?_ rfl; simp only [leS, Nat.reduceEqDiff, ↓reduceIte, true_and, and_true]
   rfl) (fun p hp => ?_)
  obtain ⟨k, m⟩ := p
  obtain ⟨hk, hm, he⟩ := hp
  simp only at hk hm he
  refine gA ?_
  refine gI (fun h1 => ?_) fun h1 => ?_
  ·have hst := szs_step (f := sz1) (d := []) (show k < xs.length by omega) m
   refine ats_skip ?_
   (repeat refine ats_seq ?_); refine ats_block ?_
   refine gC fun K hK => ?_
   (repeat refine aI (hb := ?_))
   first | refine fcall_data (szInt64S_ok _ _ hm) rfl ?_ | refine YR_intro (acall_data (szInt64S_ok _ _ hm) rfl) ?_
   simp only [go_sem, seval]
   refine hK _ ?_; clear hK K
   refine gA ?_
   refine gI (fun h2 => ?_) fun h2 => ?_
   ·refine gA ?_
    refine ats_ret (finI rfl ?_)
    rw [← he, hst, if_pos h2]
   ·refine ats_skip ?_
    refine gB ?_
    rw [if_neg h2] at hst
    refine ⟨(k + 1, sz1 (xs.getD k []) m),  ⟨by simp only; omega, by simp only; omega, by rw [← he, hst]⟩, by omega, .inl ⟨?_, rfl⟩⟩; simp only [leS, Nat.reduceEqDiff, ↓reduceIte, true_and, and_true]
    omega
  ·refine ats_exit (lq_x ?_)
   refine gA ?_
   refine ats_ret (finI rfl ?_)
   rw [← he, szs_end (by omega)]
theorem eqInt64SS_ok (xs ys : List (List Int)) : PureCall Tryz.prog 27 [.l2 xs, .l2 ys] (.bool (decide (xs = ys))) := by
 refine PureCall.intro (n := 27) (rs := [.tmp 4]) Tryz.call27 Tryz.func27 rfl rfl rfl (by simp only [List.length_cons, List.length_nil]; omega) (fun cx hcx => ats_of ?_); simp only [argSlots, Nat.zero_add, Nat.reduceAdd]
 refine gA ?_
 refine ats_know 0 fun h0 => ?_; simp only [St.get, slotGet, Nat.reduceEqDiff, ↓reduceIte, if_true, fact, facts] at h0
 refine gA ?_
 refine gI (fun hc => ?_) fun hc => ?_
 ·refine gA ?_
  refine ats_ret (finB rfl ?_)
  simp only [Bool.false_eq, decide_eq_false_iff_not]
  exact fun e => hc (by rw [e])
 ·refine ats_skip ?_
  refine gA ?_
  (repeat refine ats_seq ?_); refine ats_loop (fun k : Nat => ⟨[(0, .l2 xs), (1, .l2 ys), (5, .int k)], []⟩) (fun k => k ≤ xs.length ∧ xs.take k = ys.take k) (fun k => xs.length - k) 0 ⟨Nat.zero_le _, rfl⟩ (by
   refine And.intro ?_ rfl; simp only [leS, Nat.reduceEqDiff, ↓reduceIte, true_and, and_true]
   rfl) (fun k hk => ?_)
  refine gA ?_
  refine gI (fun h1 => ?_) fun h1 => ?_
  ·refine ats_skip ?_
   (repeat refine ats_seq ?_); refine ats_block ?_
   (repeat refine ats_seq ?_); refine ats_pick (fix0 hcx) mixed (by kernel_rfl) fun K hK => ?_; simp only [go_sem, seval]
   (repeat refine aI (hb := ?_))
   first | refine fcall_free rfl rfl (eqInt64S_ok _ _) ?_ | refine YR_intro (acall_free rfl rfl (eqInt64S_ok _ _)) ?_
   simp only [go_sem, seval]
   refine hK _ ?_; clear hK K
   refine gI (fun h2 => ?_) fun h2 => ?_
   ·refine gA ?_
    refine ats_ret (finB rfl ?_)
    simp only [Bool.false_eq, decide_eq_false_iff_not]
    exact ne_of_getD h2
   ·refine ats_skip ?_
    have := h0.1
    refine gB ?_
    refine ⟨k + 1,  ⟨by omega, take_succ_eq (by omega) (by omega) hk.2 h2⟩, by omega, .inl ⟨?_, rfl⟩⟩; simp only [leS, Nat.reduceEqDiff, ↓reduceIte, true_and, and_true]
    omega
  ·refine ats_exit (lq_x ?_)
   refine gA ?_
   refine ats_ret (finB rfl ?_)
   have e : k = xs.length := by omega
   have h := hk.2
   rw [List.take_of_length_le (by omega), List.take_of_length_le (by omega)] at h
   simp only [h, decide_true]
theorem eqInt64SSS_ok (xs ys : List (List (List Int))) : PureCall Tryz.prog 8 [.l3 xs, .l3 ys] (.bool (decide (xs = ys))) := by
 refine PureCall.intro (n := 27) (rs := [.tmp 4]) Tryz.call8 Tryz.func8 rfl rfl rfl (by simp only [List.length_cons, List.length_nil]; omega) (fun cx hcx => ats_of ?_); simp only [argSlots, Nat.zero_add, Nat.reduceAdd]
 refine gA ?_
 refine ats_know 0 fun h0 => ?_; simp only [St.get, slotGet, Nat.reduceEqDiff, ↓reduceIte, if_true, fact, facts] at h0
 refine gA ?_
 refine gI (fun hc => ?_) fun hc => ?_
 ·refine gA ?_
  refine ats_ret (finB rfl ?_)
  simp only [Bool.false_eq, decide_eq_false_iff_not]
  exact fun e => hc (by rw [e])
 ·refine ats_skip ?_
  refine gA ?_
  (repeat refine ats_seq ?_); refine ats_loop (fun k : Nat => ⟨[(0, .l3 xs), (1, .l3 ys), (5, .int k)], []⟩) (fun k => k ≤ xs.length ∧ xs.take k = ys.take k) (fun k => xs.length - k) 0 ⟨Nat.zero_le _, rfl⟩ (by
   refine And.intro ?_ rfl; simp only [leS, Nat.reduceEqDiff, ↓reduceIte, true_and, and_true]
   rfl) (fun k hk => ?_)
  refine gA ?_
  refine gI (fun h1 => ?_) fun h1 => ?_
  ·refine ats_skip ?_
   (repeat refine ats_seq ?_); refine ats_block ?_
   (repeat refine ats_seq ?_); refine ats_pick (fix0 hcx) mixed (by kernel_rfl) fun K hK => ?_; simp only [go_sem, seval]
   (repeat refine aI (hb := ?_))
   first | refine fcall_free rfl rfl (eqInt64SS_ok _ _) ?_ | refine YR_intro (acall_free rfl rfl (eqInt64SS_ok _ _)) ?_
   simp only [go_sem, seval]
   refine hK _ ?_; clear hK K
   refine gI (fun h2 => ?_) fun h2 => ?_
   ·refine gA ?_
    refine ats_ret (finB rfl ?_)
    simp only [Bool.false_eq, decide_eq_false_iff_not]
    exact ne_of_getD h2
   ·refine ats_skip ?_
    have := h0.1
    refine gB ?_
    refine ⟨k + 1,  ⟨by omega, take_succ_eq (by omega) (by omega) hk.2 h2⟩, by omega, .inl ⟨?_, rfl⟩⟩; simp only [leS, Nat.reduceEqDiff, ↓reduceIte, true_and, and_true]
    omega
  ·refine ats_exit (lq_x ?_)
   refine gA ?_
   refine ats_ret (finB rfl ?_)
   have e : k = xs.length := by omega
   have h := hk.2
   rw [List.take_of_length_le (by omega), List.take_of_length_le (by omega)] at h
   simp only [h, decide_true]
end Go.Proofs.YtjpdkdepbkmebaaGreat
namespace Go.Proofs.YtjpdkdepbkmebaaGreat
open Go Go.Aw Go.Pl
theorem toInt64S_ok (xs : List Int) (hl : xs.length ≤ 1099511627776) : FreshCall Tryz.prog 20 [.l1 xs] (.l1 xs) := by
 refine FreshCall.intro (n := 22) (rs := [.tmp 2]) Tryz.call20 Tryz.func20 rfl rfl rfl (by simp only [List.length_cons, List.length_nil]; omega) (fun cx hcx => ats_of ?_); simp only [argSlots, Nat.zero_add, Nat.reduceAdd]
 refine gA ?_
 refine ats_know 0 fun h0 => ?_; simp only [St.get, slotGet, Nat.reduceEqDiff, ↓reduceIte, if_true, fact, facts] at h0
 refine gB ?_
 refine gA ?_
 (repeat refine ats_seq ?_); refine ats_loop (fun k : Nat => ⟨[(0, .l1 xs), (3, .ref 0 []), (4, .int k)], [(0, .t1 (fill 0 xs k))]⟩) (fun k => k ≤ xs.length) (fun k => xs.length - k) 0 (Nat.zero_le _) (by
  refine And.intro ?_ (by simp only [fill_zero])
  simp only [SlotsLe, St.get, slotGet, Nat.reduceEqDiff, ↓reduceIte, true_and, and_true]
  rfl) (fun k hk => ?_)
 refine gA ?_
 refine gI (fun h1 => ?_) fun h1 => ?_
 ·refine ats_skip ?_
  (repeat refine ats_seq ?_); refine ats_block ?_
  have hfl := fill_length (d := (0 : Int)) hk
  refine gC fun K hK => ?_
  (repeat refine And.intro (by (first | omega | (rw [fill_length hk]; omega))) ?_)
  refine hK _ ?_; clear hK K
  refine gB ?_
  refine ⟨k + 1,  by omega, by omega, .inl ⟨by simp only [leS, Nat.reduceEqDiff, ↓reduceIte, true_and, and_true]; omega,  by simp only [fill_step (show k < xs.length by omega)]⟩⟩
 ·refine ats_exit (lq_x ?_)
  refine gA ?_
  simp only [fill_all (d := (0 : Int)) (show xs.length ≤ k by omega)]
  exact ats_ret (ownV rfl ⟨rfl, trivial⟩ rfl (by simp))
theorem toInt64SS_ok (xs : List (List Int)) (hl : xs.length ≤ 1099511627776 ∧ ∀ x ∈ xs, x.length ≤ 1099511627776) : FreshCall Tryz.prog 19 [.l2 xs] (.l2 xs) := by
 refine FreshCall.intro (n := 23) (rs := [.tmp 2]) Tryz.call19 Tryz.func19 rfl rfl rfl (by simp only [List.length_cons, List.length_nil]; omega) (fun cx hcx => ats_of ?_); simp only [argSlots, Nat.zero_add, Nat.reduceAdd]
 refine gA ?_
 refine ats_know 0 fun h0 => ?_; simp only [St.get, slotGet, Nat.reduceEqDiff, ↓reduceIte, if_true, fact, facts] at h0
 have hl0 := hl.1
 refine gB ?_
 refine gA ?_
 (repeat refine ats_seq ?_); refine ats_loop (fun k : Nat => ⟨[(0, .l2 xs), (3, .ref 0 []), (4, .int k)], [(0, .t2 (fill [] xs k))]⟩) (fun k => k ≤ xs.length) (fun k => xs.length - k) 0 (Nat.zero_le _) (by
  refine And.intro ?_ (by simp only [fill_zero])
  simp only [SlotsLe, St.get, slotGet, Nat.reduceEqDiff, ↓reduceIte, true_and, and_true]
  rfl) (fun k hk => ?_)
 refine gA ?_
 refine gI (fun h1 => ?_) fun h1 => ?_
 ·refine ats_skip ?_
  (repeat refine ats_seq ?_); refine ats_block ?_
  have hfl := fill_length (d := ([] : List Int)) hk
  refine gC fun K hK => ?_
  (repeat refine aI (hb := ?_))
  refine fcall_own rfl (toInt64S_ok (xs.getD k []) (hl.2 _ (getD_mem (by omega)))) rfl ?_; simp only [go_sem, seval]
  (repeat refine And.intro (by (first | omega | (rw [fill_length hk]; omega))) ?_)
  refine hK _ ?_; clear hK K
  refine gB ?_
  refine ⟨k + 1,  by omega, by omega, .inl ⟨by simp only [leS, Nat.reduceEqDiff, ↓reduceIte, true_and, and_true]; omega,  by simp only [fill_step (show k < xs.length by omega)]⟩⟩
 ·refine ats_exit (lq_x ?_)
  refine gA ?_
  simp only [fill_all (d := ([] : List Int)) (show xs.length ≤ k by omega)]
  exact ats_ret (ownV rfl ⟨rfl, trivial⟩ rfl (by simp))
end Go.Proofs.YtjpdkdepbkmebaaGreat
namespace Go.Proofs.YtjpdkdepbkmebaaGreat
open Go Go.Aw Go.Pl
theorem markInt64S_ok (xs : List Int) (k : Int) (h0 : 0 ≤ k) (h1 : k + xs.length ≤ 9223372036854775807) : TurnCall Tryz.prog 30 [.ref 0 [], .int k] [(0, .t1 xs)] [(0, .t1 (mrk1 xs k))] (.int (k + xs.length)) := by
 unfold mrk1
 refine TurnCall.intro (n := 19) (rs := [.tmp 4]) Tryz.call30 Tryz.func30 rfl rfl rfl (by simp only [List.length_cons, List.length_nil]; omega) rfl (by simp [Aw.ids]) rfl rfl rfl (fun cx hcx => ats_of ?_); simp only [argSlots, Nat.zero_add, Nat.reduceAdd]
 refine gA ?_
 refine gA ?_
 (repeat refine ats_seq ?_); refine ats_loop (fun i : Nat => ⟨[(0, .ref 0 []), (1, .int (k + i)), (5, .int i)], [(0, .t1 (up k i ++ xs.drop i))]⟩) (fun i => i ≤ xs.length) (fun i => xs.length - i) 0 (Nat.zero_le _) (by
  refine And.intro ?_ (by simp [up])
  simp only [SlotsLe, St.get, slotGet, Nat.reduceEqDiff, ↓reduceIte, true_and, and_true, AV.int.injEq]
  omega) (fun i hi => ?_)
 have hup : (up k i ++ xs.drop i).length = xs.length := by simp [up]; omega
 refine gC fun K hK => ?_
 simp only [hup]
 refine hK _ ?_; clear hK K
 refine gI (fun hc => ?_) fun hc => ?_
 ·refine ats_skip ?_
  (repeat refine ats_seq ?_); refine ats_block ?_
  refine gC fun K hK => ?_
  simp only [hup]
  (repeat refine aI (hb := ?_))
  refine hK _ ?_; clear hK K
  refine gB ?_
  refine gB ?_
  refine ⟨i + 1,  by omega, by omega, .inl ⟨by simp only [leS, Nat.reduceEqDiff, ↓reduceIte, true_and, and_true]; omega,  by simp only [up_step (show i < xs.length by omega)]⟩⟩
 ·refine ats_exit (lq_x ?_)
  refine gA ?_
  simp only [up_end (show ¬ i < xs.length by omega)]
  obtain rfl : i = xs.length := by omega
  exact ats_ret ⟨.inr rfl, ⟨trivial, rfl⟩, rfl, by simp [find]⟩
theorem markInt64SS_ok (xs : List (List Int)) (k : Int) (h0 : 0 ≤ k) (h1 : k + (tot2 xs : Nat) ≤ 9223372036854775807) : TurnCall Tryz.prog 29 [.ref 0 [], .int k] [(0, .t2 xs)] [(0, .t2 (mrk2 xs k))] (.int (k + (tot2 xs : Nat))) := by
 unfold mrk2 tot2
 unfold tot2 at h1
 refine TurnCall.intro (n := 19) (rs := [.tmp 4]) Tryz.call29 Tryz.func29 rfl rfl rfl (by simp only [List.length_cons, List.length_nil]; omega) rfl (by simp [Aw.ids]) rfl rfl rfl (fun cx hcx => ats_of ?_); simp only [argSlots, Nat.zero_add, Nat.reduceAdd]
 refine gA ?_
 refine gA ?_
 (repeat refine ats_seq ?_); refine ats_loop (fun i : Nat => ⟨[(0, .ref 0 []), (1, .int (k + (tot List.length (xs.take i) : Nat))), (5, .int i)], [(0, .t2 (mix mrk1 List.length k xs i))]⟩) (fun i => i ≤ xs.length) (fun i => xs.length - i) 0 (Nat.zero_le _) (by
  refine And.intro ?_ (by simp only [mix_zero])
  simp only [SlotsLe, St.get, slotGet, Nat.reduceEqDiff, ↓reduceIte, true_and, and_true, AV.int.injEq, List.take_zero, tot]
  omega) (fun i hi => ?_)
 have hml := mix_length (f := mrk1) (n := List.length) (k := k) (xs := xs) hi
 refine ats_knowT 0 fun hT => ?_; simp only [find, Nat.reduceEqDiff, ↓reduceIte, if_true, factT, fact, facts] at hT
 have hT1 := hT.1
 rw [hml] at hT1
 refine gC fun K hK => ?_
 simp only [hml]
 refine hK _ ?_; clear hK K
 refine gI (fun hc => ?_) fun hc => ?_
 ·have hst := tot_step (n := List.length) (d := ([] : List Int)) (i := i) (xs := xs) (by omega)
  have hle := tot_take_le (n := List.length) (i + 1) xs
  have hmg := mix_get (f := mrk1) (n := List.length) (k := k) (xs := xs) (i := i) (d := ([] : List Int)) (by omega)
  refine ats_skip ?_
  (repeat refine ats_seq ?_); refine ats_block ?_
  refine gC fun K hK => ?_
  simp only [hml]
  (repeat refine aI (hb := ?_))
  refine fcall_row2 (xss := mix mrk1 List.length k xs i) rfl (by rw [hml]; omega) (by rw [hmg]; exact markInt64S_ok _ _ (by omega) (by omega)) ?_
  simp only [go_sem, seval]
  refine hK _ ?_; clear hK K
  refine gB ?_
  simp only [mix_step (f := mrk1) (n := List.length) (k := k) (xs := xs) (i := i) (d := ([] : List Int)) (by omega)]
  refine ⟨i + 1,  by omega, by omega, .inl ⟨by simp only [leS, Nat.reduceEqDiff, ↓reduceIte, true_and, and_true]; omega,  rfl⟩⟩
 ·refine ats_exit (lq_x ?_)
  refine gA ?_
  obtain rfl : i = xs.length := by omega
  simp only [mix_end, List.take_length]
  exact ats_ret ⟨.inr rfl, ⟨trivial, rfl⟩, rfl, by simp [find]⟩
theorem markInt64SSS_ok (xs : List (List (List Int))) (k : Int) (h0 : 0 ≤ k) (h1 : k + (tot3 xs : Nat) ≤ 9223372036854775807) : TurnCall Tryz.prog 11 [.ref 0 [], .int k] [(0, .t3 xs)] [(0, .t3 (mrk3 xs k))] (.int (k + (tot3 xs : Nat))) := by
 unfold mrk3 tot3
 unfold tot3 at h1
 refine TurnCall.intro (n := 19) (rs := [.tmp 4]) Tryz.call11 Tryz.func11 rfl rfl rfl (by simp only [List.length_cons, List.length_nil]; omega) rfl (by simp [Aw.ids]) rfl rfl rfl (fun cx hcx => ats_of ?_); simp only [argSlots, Nat.zero_add, Nat.reduceAdd]
 refine gA ?_
 refine gA ?_
 (repeat refine ats_seq ?_); refine ats_loop (fun i : Nat => ⟨[(0, .ref 0 []), (1, .int (k + (tot (tot List.length) (xs.take i) : Nat))), (5, .int i)], [(0, .t3 (mix mrk2 (tot List.length) k xs i))]⟩) (fun i => i ≤ xs.length) (fun i => xs.length - i) 0 (Nat.zero_le _) (by
  refine And.intro ?_ (by simp only [mix_zero])
  simp only [SlotsLe, St.get, slotGet, Nat.reduceEqDiff, ↓reduceIte, true_and, and_true, AV.int.injEq, List.take_zero, tot]
  omega) (fun i hi => ?_)
 have hml := mix_length (f := mrk2) (n := (tot List.length)) (k := k) (xs := xs) hi
 refine ats_knowT 0 fun hT => ?_; simp only [find, Nat.reduceEqDiff, ↓reduceIte, if_true, factT, fact, facts] at hT
 have hT1 := hT.1
 rw [hml] at hT1
 refine gC fun K hK => ?_
 simp only [hml]
 refine hK _ ?_; clear hK K
 refine gI (fun hc => ?_) fun hc => ?_
 ·have hst := tot_step (n := (tot List.length)) (d := ([] : List (List Int))) (i := i) (xs := xs) (by omega)
  have hle := tot_take_le (n := (tot List.length)) (i + 1) xs
  have hmg := mix_get (f := mrk2) (n := (tot List.length)) (k := k) (xs := xs) (i := i) (d := ([] : List (List Int))) (by omega)
  refine ats_skip ?_
  (repeat refine ats_seq ?_); refine ats_block ?_
  refine gC fun K hK => ?_
  simp only [hml]
  (repeat refine aI (hb := ?_))
  refine fcall_row3 (xss := mix mrk2 (tot List.length) k xs i) rfl (by rw [hml]; omega) (by rw [hmg]; exact markInt64SS_ok _ _ (by omega) (by unfold tot2; omega)) ?_
  simp only [go_sem, seval]
  refine hK _ ?_; clear hK K
  refine gB ?_
  simp only [tot2, mix_step (f := mrk2) (n := (tot List.length)) (k := k) (xs := xs) (i := i) (d := ([] : List (List Int))) (by omega)]
  refine ⟨i + 1,  by omega, by omega, .inl ⟨by simp only [leS, Nat.reduceEqDiff, ↓reduceIte, true_and, and_true]; omega,  rfl⟩⟩
 ·refine ats_exit (lq_x ?_)
  refine gA ?_
  obtain rfl : i = xs.length := by omega
  simp only [mix_end, List.take_length]
  exact ats_ret ⟨.inr rfl, ⟨trivial, rfl⟩, rfl, by simp [find]⟩
end Go.Proofs.YtjpdkdepbkmebaaGreat
namespace Go.Proofs.YtjpdkdepbkmebaaGreat
open Go Go.Aw Go.Pl
theorem heldInt64S_ok (n : Nat) (k : Int) (h0 : 0 ≤ k) (h1 : k + n ≤ 9223372036854775807) : PureCall Tryz.prog 45 [.l1 (up k n), .int k] (.int (k + n)) := by
 refine PureCall.intro (n := 21) (rs := [.tmp 4]) Tryz.call45 Tryz.func45 rfl rfl rfl (by simp only [List.length_cons, List.length_nil]; omega) (fun cx hcx => ats_of ?_); simp only [argSlots, Nat.zero_add, Nat.reduceAdd]
 refine gA ?_
 refine gA ?_
 (repeat refine ats_seq ?_); refine ats_loop (fun i : Nat => ⟨[(0, .l1 (up k n)), (1, .int (k + i)), (5, .int i)], []⟩) (fun i => i ≤ n) (fun i => n - i) 0 (Nat.zero_le _) (by
  refine And.intro ?_ rfl
  simp only [SlotsLe, St.get, slotGet, Nat.reduceEqDiff, ↓reduceIte, true_and, and_true, AV.int.injEq]
  omega) (fun i hi => ?_)
 refine gC fun K hK => ?_
 simp only [up_length]
 refine hK _ ?_; clear hK K
 refine gI (fun hc => ?_) fun hc => ?_
 ·refine ats_skip ?_
  (repeat refine ats_seq ?_); refine ats_block ?_
  refine gC fun K hK => ?_
  simp only [up_length, up_get (k := k) (show i < n by omega)]
  (repeat refine aI (hb := ?_))
  refine hK _ ?_; clear hK K
  refine gI (fun h2 => ?_) fun h2 => ?_
  ·exact absurd trivial h2
  ·refine ats_skip ?_
   refine gB ?_
   refine gB ?_
   refine ⟨i + 1,  by omega, by omega, .inl ⟨?_, rfl⟩⟩; simp only [leS, Nat.reduceEqDiff, ↓reduceIte, true_and, and_true]
   omega
 ·refine ats_exit (lq_x ?_)
  refine gA ?_
  refine ats_ret (finI rfl ?_)
  omega
end Go.Proofs.YtjpdkdepbkmebaaGreat
namespace Go.Proofs.YtjpdkdepbkmebaaGreat
open Go Go.Aw Go.Pl
theorem szs_cost {α : Type} {f : α → Int → Int} {n : α → Nat} {p : α → Prop} (B : Int) (hf : ∀ x l, 0 ≤ l → l ≤ B → ¬ f x l < 0 → p x ∧ f x l ≤ l - (n x : Nat)) : ∀ (xs : List α) (l : Int), 0 ≤ l → l ≤ B → ¬ szs f xs l < 0 → (∀ x ∈ xs, p x) ∧ szs f xs l ≤ l - (tot n xs : Nat)
 | [], l, _, _, _ => by simp [szs, tot]
 | x :: xs, l, h0, hB, h => by
  simp only [szs] at h ⊢
  by_cases h1 : f x l < 0
  ·rw [if_pos h1] at h; exact absurd (by decide) h
  ·rw [if_neg h1] at h ⊢
   obtain ⟨k1, k2⟩ := hf x l h0 hB h1
   obtain ⟨j1, j2⟩ := szs_cost B hf xs (f x l) (by omega) (by omega) h
   refine ⟨fun y hy => ?_, by simp only [tot]; omega⟩
   rcases List.mem_cons.1 hy with rfl | hy
   ·exact k1
   ·exact j1 y hy
theorem sz0_cost {α : Type} {f : α → Int → Int} {n : α → Nat} {p : α → Prop} (B : Int) (hf : ∀ x l, 0 ≤ l → l ≤ B → ¬ f x l < 0 → p x ∧ f x l ≤ l - (n x : Nat)) (xs : List α) (l : Int) (hB : l ≤ B) (h : ¬ sz0 f xs l < 0) : ((xs.length : Int) ≤ B ∧ ∀ x ∈ xs, p x) ∧ sz0 f xs l ≤ l - (tot n xs : Nat) := by
 unfold sz0 at h ⊢
 by_cases h1 : l - xs.length < 0
 ·rw [if_pos h1] at h; exact absurd (by decide) h
 ·rw [if_neg h1] at h ⊢
  obtain ⟨j1, j2⟩ := szs_cost B hf xs (l - xs.length) (by omega) (by omega) h
  exact ⟨⟨by omega, j1⟩, by omega⟩
theorem sz1_small {x : List Int} {l : Int} (hl : l ≤ 1048576) (h : ¬ sz1 x l < 0) (_h0 : 0 ≤ l) : x.length ≤ 1099511627776 ∧ (x.length : Int) ≤ l := by
 unfold sz1 at h
 by_cases h1 : l - x.length < 0
 ·rw [if_pos h1] at h; exact absurd (by decide) h
 ·omega
end Go.Proofs.YtjpdkdepbkmebaaGreat
