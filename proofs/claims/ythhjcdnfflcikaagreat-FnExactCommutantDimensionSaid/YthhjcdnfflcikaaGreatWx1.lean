import Derived.Test.YthhjcdnfflcikaaGreatTy
import Derived.Test.YthhjcdnfflcikaaGreatLib3
import Derived.Test.YthhjcdnfflcikaaGreatPl1
set_option linter.unusedSimpArgs false
set_option linter.unusedVariables false
namespace Go.Proofs.YthhjcdnfflcikaaGreat
open Go Go.Aw
theorem mixed : Tryz.prog.follows .mixedOrders = true := by kernel_rfl
theorem eqInt64S_ok (xs ys : List Int) : PureCall Tryz.prog 22 [.l1 xs, .l1 ys] (.bool (decide (xs = ys))) := by
 refine PureCall.intro (n := 26) (rs := [.tmp 4]) Tryz.call22 Tryz.func22 rfl rfl rfl (by simp only [List.length_cons, List.length_nil]; omega) (fun cx hcx => ats_of ?_); simp only [argSlots, Nat.zero_add, Nat.reduceAdd]
 refine gA ?_
 refine ats_know 0 fun h0 => ?_; simp only [St.get, slotGet, Nat.reduceEqDiff, ↓reduceIte, if_true, fact, facts] at h0
 refine gA ?_
 refine gI (fun hc => ?_) fun hc => ?_
 ·refine gA ?_
  refine ats_ret (finB rfl ?_)
  simp only [Bool.false_eq, decide_eq_false_iff_not]
  exact fun e => hc (by rw [e])
 ·refine ats_skip ?_
  refine gA ?_
  (repeat refine ats_seq ?_); refine ats_loop (fun k : Nat => ⟨[(0, .l1 xs), (1, .l1 ys), (5, .int k)], []⟩) (fun k => k ≤ xs.length ∧ xs.take k = ys.take k) (fun k => xs.length - k) 0 ⟨Nat.zero_le _, rfl⟩ (by
   refine And.intro ?_ rfl; simp only [leS, Nat.reduceEqDiff, ↓reduceIte, true_and, and_true]
   rfl) (fun k hk => ?_)
  refine gA ?_
  refine gI (fun h1 => ?_) fun h1 => ?_
  ·refine ats_skip ?_
   (repeat refine ats_seq ?_); refine ats_block ?_
   (repeat refine ats_seq ?_); refine ats_pick (fix0 hcx) mixed (by kernel_rfl) fun K hK => ?_; simp only [go_sem, seval]; (repeat refine aI (hb := ?_)); refine hK _ ?_; clear hK K
   refine gI (fun h2 => ?_) fun h2 => ?_
   ·refine gA ?_
    refine ats_ret (finB rfl ?_)
    simp only [Bool.false_eq, decide_eq_false_iff_not]
    exact ne_of_getD h2
   ·refine ats_skip ?_
    have := h0.1
    refine gB ?_
    refine ⟨k + 1,  ⟨by omega, take_succ_eq (by omega) (by omega) hk.2 h2⟩, by omega, .inl ⟨?_, rfl⟩⟩; simp only [leS, Nat.reduceEqDiff, ↓reduceIte, true_and, and_true]
    omega
  ·refine ats_exit (lq_x ?_)
   refine gA ?_
   refine ats_ret (finB rfl ?_)
   have e : k = xs.length := by omega
   have h := hk.2
   rw [List.take_of_length_le (by omega), List.take_of_length_le (by omega)] at h
   simp only [h, decide_true]
end Go.Proofs.YthhjcdnfflcikaaGreat
namespace Go.Proofs.YthhjcdnfflcikaaGreat
open Go Go.Aw Go.Pl
theorem szInt64S_ok (xs : List Int) (l : Int) (hl : 0 ≤ l) : PureCall Tryz.prog 10 [.l1 xs, .int l] (.int (sz1 xs l)) := by
 refine PureCall.intro (n := 12) (rs := [.tmp 4]) Tryz.call10 Tryz.func10 rfl rfl rfl (by simp only [List.length_cons, List.length_nil]; omega) (fun cx hcx => ats_of ?_); simp only [argSlots, Nat.zero_add, Nat.reduceAdd]
 refine gA ?_
 refine ats_know 0 fun h0 => ?_; simp only [St.get, slotGet, Nat.reduceEqDiff, ↓reduceIte, if_true, fact, facts] at h0
 refine ats_know 1 fun h1 => ?_; simp only [St.get, slotGet, Nat.reduceEqDiff, ↓reduceIte, if_true, fact, facts] at h1
 have := h0.1; have := h1.1; have := h1.2
 refine gB ?_
 refine gA ?_
 refine gI (fun hc => ?_) fun hc => ?_
 ·refine gA ?_
  refine ats_ret (finI rfl ?_)
  simp only [sz1, if_pos hc]
 ·refine ats_skip ?_
  refine gA ?_
  refine ats_ret (finI rfl ?_)
  simp only [sz1, if_neg hc]
theorem szInt64SS_ok (xs : List (List Int)) (l : Int) (hl : 0 ≤ l) : PureCall Tryz.prog 9 [.l2 xs, .int l] (.int (sz2 xs l)) := by
 refine PureCall.intro (n := 27) (rs := [.tmp 4]) Tryz.call9 Tryz.func9 rfl rfl rfl (by simp only [List.length_cons, List.length_nil]; omega) (fun cx hcx => ats_of ?_); simp only [argSlots, Nat.zero_add, Nat.reduceAdd]
 refine gA ?_
 refine ats_know 0 fun h0 => ?_; simp only [St.get, slotGet, Nat.reduceEqDiff, ↓reduceIte, if_true, fact, facts] at h0
 refine ats_know 1 fun h1 => ?_; simp only [St.get, slotGet, Nat.reduceEqDiff, ↓reduceIte, if_true, fact, facts] at h1
 have := h0.1; have := h1.1; have := h1.2
 refine gB ?_
 refine gA ?_
 refine gI (fun hc => ?_) fun hc => ?_
 ·refine gA ?_
  refine ats_ret (finI rfl ?_)
  simp only [sz2, sz0, if_pos hc]
 ·refine ats_skip ?_
  refine gA ?_
  (repeat refine ats_seq ?_); refine ats_loop (fun p : Nat × Int => ⟨[(0, .l2 xs), (1, .int p.2), (5, .int p.1)], []⟩) (fun p => p.1 ≤ xs.length ∧ 0 ≤ p.2 ∧ szs sz1 (xs.drop p.1) p.2 = sz2 xs l) (fun p => xs.length - p.1) (0, l - xs.length) ⟨Nat.zero_le _, by omega, by simp only [sz2, sz0, if_neg hc, List.drop_zero]⟩ (by
   refine And.intro ?_ rfl; simp only [leS, Nat.reduceEqDiff, ↓reduceIte, true_and, and_true]
   rfl) (fun p hp => ?_)
  obtain ⟨k, m⟩ := p
  obtain ⟨hk, hm, he⟩ := hp
  simp only at hk hm he
  refine gA ?_
  refine gI (fun h1 => ?_) fun h1 => ?_
  ·have hst := szs_step (f := sz1) (d := []) (show k < xs.length by omega) m
   refine ats_skip ?_
   (repeat refine ats_seq ?_); refine ats_block ?_
   refine gC fun K hK => ?_
   (repeat refine aI (hb := ?_))
   first | refine fcall_data (szInt64S_ok _ _ hm) rfl ?_ | refine YR_intro (acall_data (szInt64S_ok _ _ hm) rfl) ?_
   simp only [go_sem, seval]
   refine hK _ ?_; clear hK K
   refine gA ?_
   refine gI (fun h2 => ?_) fun h2 => ?_
   ·refine gA ?_
    refine ats_ret (finI rfl ?_)
    rw [← he, hst, if_pos h2]
   ·refine ats_skip ?_
    refine gB ?_
    rw [if_neg h2] at hst
    refine ⟨(k + 1, sz1 (xs.getD k []) m),  ⟨by simp only; omega, by simp only; omega, by rw [← he, hst]⟩, by omega, .inl ⟨?_, rfl⟩⟩; simp only [leS, Nat.reduceEqDiff, ↓reduceIte, true_and, and_true]
    omega
  ·refine ats_exit (lq_x ?_)
   refine gA ?_
   refine ats_ret (finI rfl ?_)
   rw [← he, szs_end (by omega)]
theorem eqInt64SS_ok (xs ys : List (List Int)) : PureCall Tryz.prog 21 [.l2 xs, .l2 ys] (.bool (decide (xs = ys))) := by
 refine PureCall.intro (n := 27) (rs := [.tmp 4]) Tryz.call21 Tryz.func21 rfl rfl rfl (by simp only [List.length_cons, List.length_nil]; omega) (fun cx hcx => ats_of ?_); simp only [argSlots, Nat.zero_add, Nat.reduceAdd]
 refine gA ?_
 refine ats_know 0 fun h0 => ?_; simp only [St.get, slotGet, Nat.reduceEqDiff, ↓reduceIte, if_true, fact, facts] at h0
 refine gA ?_
 refine gI (fun hc => ?_) fun hc => ?_
 ·refine gA ?_
  refine ats_ret (finB rfl ?_)
  simp only [Bool.false_eq, decide_eq_false_iff_not]
  exact fun e => hc (by rw [e])
 ·refine ats_skip ?_
  refine gA ?_
  (repeat refine ats_seq ?_); refine ats_loop (fun k : Nat => ⟨[(0, .l2 xs), (1, .l2 ys), (5, .int k)], []⟩) (fun k => k ≤ xs.length ∧ xs.take k = ys.take k) (fun k => xs.length - k) 0 ⟨Nat.zero_le _, rfl⟩ (by
   refine And.intro ?_ rfl; simp only [leS, Nat.reduceEqDiff, ↓reduceIte, true_and, and_true]
   rfl) (fun k hk => ?_)
  refine gA ?_
  refine gI (fun h1 => ?_) fun h1 => ?_
  ·refine ats_skip ?_
   (repeat refine ats_seq ?_); refine ats_block ?_
   (repeat refine ats_seq ?_); refine ats_pick (fix0 hcx) mixed (by kernel_rfl) fun K hK => ?_; simp only [go_sem, seval]
   (repeat refine aI (hb := ?_))
   first | refine fcall_free rfl rfl (eqInt64S_ok _ _) ?_ | refine YR_intro (acall_free rfl rfl (eqInt64S_ok _ _)) ?_
   simp only [go_sem, seval]
   refine hK _ ?_; clear hK K
   refine gI (fun h2 => ?_) fun h2 => ?_
   ·refine gA ?_
    refine ats_ret (finB rfl ?_)
    simp only [Bool.false_eq, decide_eq_false_iff_not]
    exact ne_of_getD h2
   ·refine ats_skip ?_
    have := h0.1
    refine gB ?_
    refine ⟨k + 1,  ⟨by omega, take_succ_eq (by omega) (by omega) hk.2 h2⟩, by omega, .inl ⟨?_, rfl⟩⟩; simp only [leS, Nat.reduceEqDiff, ↓reduceIte, true_and, and_true]
    omega
  ·refine ats_exit (lq_x ?_)
   refine gA ?_
   refine ats_ret (finB rfl ?_)
   have e : k = xs.length := by omega
   have h := hk.2
   rw [List.take_of_length_le (by omega), List.take_of_length_le (by omega)] at h
   simp only [h, decide_true]
end Go.Proofs.YthhjcdnfflcikaaGreat
namespace Go.Proofs.YthhjcdnfflcikaaGreat
open Go Go.Aw Go.Pl
theorem toInt64S_ok (xs : List Int) (hl : xs.length ≤ 1099511627776) : FreshCall Tryz.prog 15 [.l1 xs] (.l1 xs) := by
 refine FreshCall.intro (n := 22) (rs := [.tmp 2]) Tryz.call15 Tryz.func15 rfl rfl rfl (by simp only [List.length_cons, List.length_nil]; omega) (fun cx hcx => ats_of ?_); simp only [argSlots, Nat.zero_add, Nat.reduceAdd]
 refine gA ?_
 refine ats_know 0 fun h0 => ?_; simp only [St.get, slotGet, Nat.reduceEqDiff, ↓reduceIte, if_true, fact, facts] at h0
 refine gB ?_
 refine gA ?_
 (repeat refine ats_seq ?_); refine ats_loop (fun k : Nat => ⟨[(0, .l1 xs), (3, .ref 0 []), (4, .int k)], [(0, .t1 (fill 0 xs k))]⟩) (fun k => k ≤ xs.length) (fun k => xs.length - k) 0 (Nat.zero_le _) (by
  refine And.intro ?_ (by simp only [fill_zero])
  simp only [SlotsLe, St.get, slotGet, Nat.reduceEqDiff, ↓reduceIte, true_and, and_true]
  rfl) (fun k hk => ?_)
 refine gA ?_
 refine gI (fun h1 => ?_) fun h1 => ?_
 ·refine ats_skip ?_
  (repeat refine ats_seq ?_); refine ats_block ?_
  have hfl := fill_length (d := (0 : Int)) hk
  refine gC fun K hK => ?_
  (repeat refine And.intro (by (first | omega | (rw [fill_length hk]; omega))) ?_)
  refine hK _ ?_; clear hK K
  refine gB ?_
  refine ⟨k + 1,  by omega, by omega, .inl ⟨by simp only [leS, Nat.reduceEqDiff, ↓reduceIte, true_and, and_true]; omega,  by simp only [fill_step (show k < xs.length by omega)]⟩⟩
 ·refine ats_exit (lq_x ?_)
  refine gA ?_
  simp only [fill_all (d := (0 : Int)) (show xs.length ≤ k by omega)]
  exact ats_ret (ownV rfl ⟨rfl, trivial⟩ rfl (by simp))
theorem toInt64SS_ok (xs : List (List Int)) (hl : xs.length ≤ 1099511627776 ∧ ∀ x ∈ xs, x.length ≤ 1099511627776) : FreshCall Tryz.prog 14 [.l2 xs] (.l2 xs) := by
 refine FreshCall.intro (n := 23) (rs := [.tmp 2]) Tryz.call14 Tryz.func14 rfl rfl rfl (by simp only [List.length_cons, List.length_nil]; omega) (fun cx hcx => ats_of ?_); simp only [argSlots, Nat.zero_add, Nat.reduceAdd]
 refine gA ?_
 refine ats_know 0 fun h0 => ?_; simp only [St.get, slotGet, Nat.reduceEqDiff, ↓reduceIte, if_true, fact, facts] at h0
 have hl0 := hl.1
 refine gB ?_
 refine gA ?_
 (repeat refine ats_seq ?_); refine ats_loop (fun k : Nat => ⟨[(0, .l2 xs), (3, .ref 0 []), (4, .int k)], [(0, .t2 (fill [] xs k))]⟩) (fun k => k ≤ xs.length) (fun k => xs.length - k) 0 (Nat.zero_le _) (by
  refine And.intro ?_ (by simp only [fill_zero])
  simp only [SlotsLe, St.get, slotGet, Nat.reduceEqDiff, ↓reduceIte, true_and, and_true]
  rfl) (fun k hk => ?_)
 refine gA ?_
 refine gI (fun h1 => ?_) fun h1 => ?_
 ·refine ats_skip ?_
  (repeat refine ats_seq ?_); refine ats_block ?_
  have hfl := fill_length (d := ([] : List Int)) hk
  refine gC fun K hK => ?_
  (repeat refine aI (hb := ?_))
  refine fcall_own rfl (toInt64S_ok (xs.getD k []) (hl.2 _ (getD_mem (by omega)))) rfl ?_; simp only [go_sem, seval]
  (repeat refine And.intro (by (first | omega | (rw [fill_length hk]; omega))) ?_)
  refine hK _ ?_; clear hK K
  refine gB ?_
  refine ⟨k + 1,  by omega, by omega, .inl ⟨by simp only [leS, Nat.reduceEqDiff, ↓reduceIte, true_and, and_true]; omega,  by simp only [fill_step (show k < xs.length by omega)]⟩⟩
 ·refine ats_exit (lq_x ?_)
  refine gA ?_
  simp only [fill_all (d := ([] : List Int)) (show xs.length ≤ k by omega)]
  exact ats_ret (ownV rfl ⟨rfl, trivial⟩ rfl (by simp))
end Go.Proofs.YthhjcdnfflcikaaGreat
namespace Go.Proofs.YthhjcdnfflcikaaGreat
open Go Go.Aw Go.Pl
end Go.Proofs.YthhjcdnfflcikaaGreat
namespace Go.Proofs.YthhjcdnfflcikaaGreat
open Go Go.Aw Go.Pl
end Go.Proofs.YthhjcdnfflcikaaGreat
namespace Go.Proofs.YthhjcdnfflcikaaGreat
open Go Go.Aw Go.Pl
theorem szs_cost {α : Type} {f : α → Int → Int} {n : α → Nat} {p : α → Prop} (B : Int) (hf : ∀ x l, 0 ≤ l → l ≤ B → ¬ f x l < 0 → p x ∧ f x l ≤ l - (n x : Nat)) : ∀ (xs : List α) (l : Int), 0 ≤ l → l ≤ B → ¬ szs f xs l < 0 → (∀ x ∈ xs, p x) ∧ szs f xs l ≤ l - (tot n xs : Nat)
 | [], l, _, _, _ => by simp [szs, tot]
 | x :: xs, l, h0, hB, h => by
  simp only [szs] at h ⊢
  by_cases h1 : f x l < 0
  ·rw [if_pos h1] at h; exact absurd (by decide) h
  ·rw [if_neg h1] at h ⊢
   obtain ⟨k1, k2⟩ := hf x l h0 hB h1
   obtain ⟨j1, j2⟩ := szs_cost B hf xs (f x l) (by omega) (by omega) h
   refine ⟨fun y hy => ?_, by simp only [tot]; omega⟩
   rcases List.mem_cons.1 hy with rfl | hy
   ·exact k1
   ·exact j1 y hy
theorem sz0_cost {α : Type} {f : α → Int → Int} {n : α → Nat} {p : α → Prop} (B : Int) (hf : ∀ x l, 0 ≤ l → l ≤ B → ¬ f x l < 0 → p x ∧ f x l ≤ l - (n x : Nat)) (xs : List α) (l : Int) (hB : l ≤ B) (h : ¬ sz0 f xs l < 0) : ((xs.length : Int) ≤ B ∧ ∀ x ∈ xs, p x) ∧ sz0 f xs l ≤ l - (tot n xs : Nat) := by
 unfold sz0 at h ⊢
 by_cases h1 : l - xs.length < 0
 ·rw [if_pos h1] at h; exact absurd (by decide) h
 ·rw [if_neg h1] at h ⊢
  obtain ⟨j1, j2⟩ := szs_cost B hf xs (l - xs.length) (by omega) (by omega) h
  exact ⟨⟨by omega, j1⟩, by omega⟩
theorem sz1_small {x : List Int} {l : Int} (hl : l ≤ 1048576) (h : ¬ sz1 x l < 0) (_h0 : 0 ≤ l) : x.length ≤ 1099511627776 ∧ (x.length : Int) ≤ l := by
 unfold sz1 at h
 by_cases h1 : l - x.length < 0
 ·rw [if_pos h1] at h; exact absurd (by decide) h
 ·omega
end Go.Proofs.YthhjcdnfflcikaaGreat
