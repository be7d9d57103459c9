/-
  Joined out of: W1 W2 W3 W4 W5 Lk.
-/
import Derived.Test.YtgaclhdmhipagaaDoorTy
import Derived.Test.YtgaclhdmhipagaaDoorLib3
import Derived.Test.YtgaclhdmhipagaaDoorPl1
set_option linter.unusedSimpArgs false
set_option linter.unusedVariables false
namespace Go.Proofs.YtgaclhdmhipagaaDoor
open Go Go.Aw

theorem mixed : Tryd.prog.follows .mixedOrders = true := by kernel_rfl

theorem eqInt64S_ok (xs ys : List Int) : PureCall Tryd.prog 43 [.l1 xs, .l1 ys] (.bool (decide (xs = ys))) := by
  refine PureCall.intro (n := 26) (rs := [.tmp 4]) Tryd.call43 Tryd.func43 rfl rfl rfl (by simp only [List.length_cons, List.length_nil]; omega) (fun cx hcx => ats_of ?_); simp only [argSlots, Nat.zero_add, Nat.reduceAdd]
  (repeat refine ats_seq ?_); refine ats_go (fix0 hcx) fun K hK => ?_; simp only [go_sem, seval]; refine hK _ ?_; clear hK K
  refine ats_know 0 fun h0 => ?_; simp only [St.get, slotGet, Nat.reduceEqDiff, ↓reduceIte, if_true, fact, facts] at h0
  (repeat refine ats_seq ?_); refine ats_go (fix0 hcx) fun K hK => ?_; simp only [go_sem, seval]; refine hK _ ?_; clear hK K
  (repeat refine ats_seq ?_); first | refine ats_ifn (p := _) rfl trivial (fun hc => ?_) (fun hc => ?_) | refine ats_ifp (p := _) rfl trivial (fun hc => ?_) (fun hc => ?_) | refine ats_cond rfl trivial (fun hc => ?_) (fun hc => ?_)
  · (repeat refine ats_seq ?_); refine ats_go (fix0 hcx) fun K hK => ?_; simp only [go_sem, seval]; refine hK _ ?_; clear hK K
    refine ats_ret (finB rfl ?_)
    simp only [Bool.false_eq, decide_eq_false_iff_not]
    exact fun e => hc (by rw [e])
  · refine ats_skip ?_
    (repeat refine ats_seq ?_); refine ats_go (fix0 hcx) fun K hK => ?_; simp only [go_sem, seval]; refine hK _ ?_; clear hK K
    (repeat refine ats_seq ?_); refine ats_loop (fun k : Nat => ⟨[(0, .l1 xs), (1, .l1 ys), (5, .int k)], []⟩) (fun k => k ≤ xs.length ∧ xs.take k = ys.take k) (fun k => xs.length - k) 0 ⟨Nat.zero_le _, rfl⟩ (by
      refine And.intro ?_ rfl; simp only [leS, Nat.reduceEqDiff, ↓reduceIte, true_and, and_true]
      rfl) (fun k hk => ?_)
    (repeat refine ats_seq ?_); refine ats_go (fix0 hcx) fun K hK => ?_; simp only [go_sem, seval]; refine hK _ ?_; clear hK K
    (repeat refine ats_seq ?_); first | refine ats_ifn (p := _) rfl trivial (fun h1 => ?_) (fun h1 => ?_) | refine ats_ifp (p := _) rfl trivial (fun h1 => ?_) (fun h1 => ?_) | refine ats_cond rfl trivial (fun h1 => ?_) (fun h1 => ?_)
    · refine ats_skip ?_
      (repeat refine ats_seq ?_); refine ats_block ?_
      (repeat refine ats_seq ?_); refine ats_pick (fix0 hcx) mixed (by kernel_rfl) fun K hK => ?_; simp only [go_sem, seval]; (repeat refine aI (hb := ?_)); refine hK _ ?_; clear hK K
      (repeat refine ats_seq ?_); first | refine ats_ifn (p := _) rfl trivial (fun h2 => ?_) (fun h2 => ?_) | refine ats_ifp (p := _) rfl trivial (fun h2 => ?_) (fun h2 => ?_) | refine ats_cond rfl trivial (fun h2 => ?_) (fun h2 => ?_)
      · (repeat refine ats_seq ?_); refine ats_go (fix0 hcx) fun K hK => ?_; simp only [go_sem, seval]; refine hK _ ?_; clear hK K
        refine ats_ret (finB rfl ?_)
        simp only [Bool.false_eq, decide_eq_false_iff_not]
        exact ne_of_getD h2
      · refine ats_skip ?_
        have := h0.1
        (repeat refine ats_seq ?_); refine ats_go (fix0 hcx) fun K hK => ?_; simp only [go_sem, seval]; (repeat refine aI (hb := ?_)); refine hK _ ?_; clear hK K
        refine ⟨k + 1,  ⟨by omega, take_succ_eq (by omega) (by omega) hk.2 h2⟩, by omega, .inl ⟨?_, rfl⟩⟩; simp only [leS, Nat.reduceEqDiff, ↓reduceIte, true_and, and_true]
        omega
    · refine ats_exit (lq_x ?_)
      (repeat refine ats_seq ?_); refine ats_go (fix0 hcx) fun K hK => ?_; simp only [go_sem, seval]; refine hK _ ?_; clear hK K
      refine ats_ret (finB rfl ?_)
      have e : k = xs.length := by omega
      have h := hk.2
      rw [List.take_of_length_le (by omega), List.take_of_length_le (by omega)] at h
      simp only [h, decide_true]
end Go.Proofs.YtgaclhdmhipagaaDoor

namespace Go.Proofs.YtgaclhdmhipagaaDoor
open Go Go.Aw Go.Pl

theorem szInt64S_ok (xs : List Int) (l : Int) (hl : 0 ≤ l) : PureCall Tryd.prog 27 [.l1 xs, .int l] (.int (sz1 xs l)) := by
  refine PureCall.intro (n := 12) (rs := [.tmp 4]) Tryd.call27 Tryd.func27 rfl rfl rfl (by simp only [List.length_cons, List.length_nil]; omega) (fun cx hcx => ats_of ?_); simp only [argSlots, Nat.zero_add, Nat.reduceAdd]
  (repeat refine ats_seq ?_); refine ats_go (fix0 hcx) fun K hK => ?_; simp only [go_sem, seval]; refine hK _ ?_; clear hK K
  refine ats_know 0 fun h0 => ?_; simp only [St.get, slotGet, Nat.reduceEqDiff, ↓reduceIte, if_true, fact, facts] at h0
  refine ats_know 1 fun h1 => ?_; simp only [St.get, slotGet, Nat.reduceEqDiff, ↓reduceIte, if_true, fact, facts] at h1
  have := h0.1; have := h1.1; have := h1.2
  (repeat refine ats_seq ?_); refine ats_go (fix0 hcx) fun K hK => ?_; simp only [go_sem, seval]; (repeat refine aI (hb := ?_)); refine hK _ ?_; clear hK K
  (repeat refine ats_seq ?_); refine ats_go (fix0 hcx) fun K hK => ?_; simp only [go_sem, seval]; refine hK _ ?_; clear hK K
  (repeat refine ats_seq ?_); first | refine ats_ifn (p := _) rfl trivial (fun hc => ?_) (fun hc => ?_) | refine ats_ifp (p := _) rfl trivial (fun hc => ?_) (fun hc => ?_) | refine ats_cond rfl trivial (fun hc => ?_) (fun hc => ?_)
  · (repeat refine ats_seq ?_); refine ats_go (fix0 hcx) fun K hK => ?_; simp only [go_sem, seval]; refine hK _ ?_; clear hK K
    refine ats_ret (finI rfl ?_)
    simp only [sz1, if_pos hc]
  · refine ats_skip ?_
    (repeat refine ats_seq ?_); refine ats_go (fix0 hcx) fun K hK => ?_; simp only [go_sem, seval]; refine hK _ ?_; clear hK K
    refine ats_ret (finI rfl ?_)
    simp only [sz1, if_neg hc]

theorem szInt64SS_ok (xs : List (List Int)) (l : Int) (hl : 0 ≤ l) : PureCall Tryd.prog 16 [.l2 xs, .int l] (.int (sz2 xs l)) := by
  refine PureCall.intro (n := 27) (rs := [.tmp 4]) Tryd.call16 Tryd.func16 rfl rfl rfl (by simp only [List.length_cons, List.length_nil]; omega) (fun cx hcx => ats_of ?_); simp only [argSlots, Nat.zero_add, Nat.reduceAdd]
  (repeat refine ats_seq ?_); refine ats_go (fix0 hcx) fun K hK => ?_; simp only [go_sem, seval]; refine hK _ ?_; clear hK K
  refine ats_know 0 fun h0 => ?_; simp only [St.get, slotGet, Nat.reduceEqDiff, ↓reduceIte, if_true, fact, facts] at h0
  refine ats_know 1 fun h1 => ?_; simp only [St.get, slotGet, Nat.reduceEqDiff, ↓reduceIte, if_true, fact, facts] at h1
  have := h0.1; have := h1.1; have := h1.2
  (repeat refine ats_seq ?_); refine ats_go (fix0 hcx) fun K hK => ?_; simp only [go_sem, seval]; (repeat refine aI (hb := ?_)); refine hK _ ?_; clear hK K
  (repeat refine ats_seq ?_); refine ats_go (fix0 hcx) fun K hK => ?_; simp only [go_sem, seval]; refine hK _ ?_; clear hK K
  (repeat refine ats_seq ?_); first | refine ats_ifn (p := _) rfl trivial (fun hc => ?_) (fun hc => ?_) | refine ats_ifp (p := _) rfl trivial (fun hc => ?_) (fun hc => ?_) | refine ats_cond rfl trivial (fun hc => ?_) (fun hc => ?_)
  · (repeat refine ats_seq ?_); refine ats_go (fix0 hcx) fun K hK => ?_; simp only [go_sem, seval]; refine hK _ ?_; clear hK K
    refine ats_ret (finI rfl ?_)
    simp only [sz2, sz0, if_pos hc]
  · refine ats_skip ?_
    (repeat refine ats_seq ?_); refine ats_go (fix0 hcx) fun K hK => ?_; simp only [go_sem, seval]; refine hK _ ?_; clear hK K
    (repeat refine ats_seq ?_); refine ats_loop (fun p : Nat × Int => ⟨[(0, .l2 xs), (1, .int p.2), (5, .int p.1)], []⟩) (fun p => p.1 ≤ xs.length ∧ 0 ≤ p.2 ∧ szs sz1 (xs.drop p.1) p.2 = sz2 xs l) (fun p => xs.length - p.1) (0, l - xs.length) ⟨Nat.zero_le _, by omega, by simp only [sz2, sz0, if_neg hc, List.drop_zero]⟩ (by
      refine And.intro ?_ rfl; simp only [leS, Nat.reduceEqDiff, ↓reduceIte, true_and, and_true]
      rfl) (fun p hp => ?_)
    obtain ⟨k, m⟩ := p
    obtain ⟨hk, hm, he⟩ := hp
    simp only at hk hm he
    (repeat refine ats_seq ?_); refine ats_go (fix0 hcx) fun K hK => ?_; simp only [go_sem, seval]; refine hK _ ?_; clear hK K
    (repeat refine ats_seq ?_); first | refine ats_ifn (p := _) rfl trivial (fun h1 => ?_) (fun h1 => ?_) | refine ats_ifp (p := _) rfl trivial (fun h1 => ?_) (fun h1 => ?_) | refine ats_cond rfl trivial (fun h1 => ?_) (fun h1 => ?_)
    · have hst := szs_step (f := sz1) (d := []) (show k < xs.length by omega) m
      refine ats_skip ?_
      (repeat refine ats_seq ?_); refine ats_block ?_
      (repeat refine ats_seq ?_); refine ats_go (fix0 hcx) fun K hK => ?_; simp only [go_sem, seval]
      (repeat refine aI (hb := ?_))
      first | refine fcall_data (szInt64S_ok _ _ hm) rfl ?_ | refine YR_intro (acall_data (szInt64S_ok _ _ hm) rfl) ?_
      simp only [go_sem, seval]
      refine hK _ ?_; clear hK K
      (repeat refine ats_seq ?_); refine ats_go (fix0 hcx) fun K hK => ?_; simp only [go_sem, seval]; refine hK _ ?_; clear hK K
      (repeat refine ats_seq ?_); first | refine ats_ifn (p := _) rfl trivial (fun h2 => ?_) (fun h2 => ?_) | refine ats_ifp (p := _) rfl trivial (fun h2 => ?_) (fun h2 => ?_) | refine ats_cond rfl trivial (fun h2 => ?_) (fun h2 => ?_)
      · (repeat refine ats_seq ?_); refine ats_go (fix0 hcx) fun K hK => ?_; simp only [go_sem, seval]; refine hK _ ?_; clear hK K
        refine ats_ret (finI rfl ?_)
        rw [← he, hst, if_pos h2]
      · refine ats_skip ?_
        (repeat refine ats_seq ?_); refine ats_go (fix0 hcx) fun K hK => ?_; simp only [go_sem, seval]; (repeat refine aI (hb := ?_)); refine hK _ ?_; clear hK K
        rw [if_neg h2] at hst
        refine ⟨(k + 1, sz1 (xs.getD k []) m),  ⟨by simp only; omega, by simp only; omega, by rw [← he, hst]⟩, by omega, .inl ⟨?_, rfl⟩⟩; simp only [leS, Nat.reduceEqDiff, ↓reduceIte, true_and, and_true]
        omega
    · refine ats_exit (lq_x ?_)
      (repeat refine ats_seq ?_); refine ats_go (fix0 hcx) fun K hK => ?_; simp only [go_sem, seval]; refine hK _ ?_; clear hK K
      refine ats_ret (finI rfl ?_)
      rw [← he, szs_end (by omega)]
theorem szInt64SSS_ok (xs : List (List (List Int))) (l : Int) (hl : 0 ≤ l) : PureCall Tryd.prog 9 [.l3 xs, .int l] (.int (sz3 xs l)) := by
  refine PureCall.intro (n := 27) (rs := [.tmp 4]) Tryd.call9 Tryd.func9 rfl rfl rfl (by simp only [List.length_cons, List.length_nil]; omega) (fun cx hcx => ats_of ?_); simp only [argSlots, Nat.zero_add, Nat.reduceAdd]
  (repeat refine ats_seq ?_); refine ats_go (fix0 hcx) fun K hK => ?_; simp only [go_sem, seval]; refine hK _ ?_; clear hK K
  refine ats_know 0 fun h0 => ?_; simp only [St.get, slotGet, Nat.reduceEqDiff, ↓reduceIte, if_true, fact, facts] at h0
  refine ats_know 1 fun h1 => ?_; simp only [St.get, slotGet, Nat.reduceEqDiff, ↓reduceIte, if_true, fact, facts] at h1
  have := h0.1; have := h1.1; have := h1.2
  (repeat refine ats_seq ?_); refine ats_go (fix0 hcx) fun K hK => ?_; simp only [go_sem, seval]; (repeat refine aI (hb := ?_)); refine hK _ ?_; clear hK K
  (repeat refine ats_seq ?_); refine ats_go (fix0 hcx) fun K hK => ?_; simp only [go_sem, seval]; refine hK _ ?_; clear hK K
  (repeat refine ats_seq ?_); first | refine ats_ifn (p := _) rfl trivial (fun hc => ?_) (fun hc => ?_) | refine ats_ifp (p := _) rfl trivial (fun hc => ?_) (fun hc => ?_) | refine ats_cond rfl trivial (fun hc => ?_) (fun hc => ?_)
  · (repeat refine ats_seq ?_); refine ats_go (fix0 hcx) fun K hK => ?_; simp only [go_sem, seval]; refine hK _ ?_; clear hK K
    refine ats_ret (finI rfl ?_)
    simp only [sz3, sz0, if_pos hc]
  · refine ats_skip ?_
    (repeat refine ats_seq ?_); refine ats_go (fix0 hcx) fun K hK => ?_; simp only [go_sem, seval]; refine hK _ ?_; clear hK K
    (repeat refine ats_seq ?_); refine ats_loop (fun p : Nat × Int => ⟨[(0, .l3 xs), (1, .int p.2), (5, .int p.1)], []⟩) (fun p => p.1 ≤ xs.length ∧ 0 ≤ p.2 ∧ szs sz2 (xs.drop p.1) p.2 = sz3 xs l) (fun p => xs.length - p.1) (0, l - xs.length) ⟨Nat.zero_le _, by omega, by simp only [sz3, sz0, if_neg hc, List.drop_zero]⟩ (by
      refine And.intro ?_ rfl; simp only [leS, Nat.reduceEqDiff, ↓reduceIte, true_and, and_true]
      rfl) (fun p hp => ?_)
    obtain ⟨k, m⟩ := p
    obtain ⟨hk, hm, he⟩ := hp
    simp only at hk hm he
    (repeat refine ats_seq ?_); refine ats_go (fix0 hcx) fun K hK => ?_; simp only [go_sem, seval]; refine hK _ ?_; clear hK K
    (repeat refine ats_seq ?_); first | refine ats_ifn (p := _) rfl trivial (fun h1 => ?_) (fun h1 => ?_) | refine ats_ifp (p := _) rfl trivial (fun h1 => ?_) (fun h1 => ?_) | refine ats_cond rfl trivial (fun h1 => ?_) (fun h1 => ?_)
    · have hst := szs_step (f := sz2) (d := []) (show k < xs.length by omega) m
      refine ats_skip ?_
      (repeat refine ats_seq ?_); refine ats_block ?_
      (repeat refine ats_seq ?_); refine ats_go (fix0 hcx) fun K hK => ?_; simp only [go_sem, seval]
      (repeat refine aI (hb := ?_))
      first | refine fcall_data (szInt64SS_ok _ _ hm) rfl ?_ | refine YR_intro (acall_data (szInt64SS_ok _ _ hm) rfl) ?_
      simp only [go_sem, seval]
      refine hK _ ?_; clear hK K
      (repeat refine ats_seq ?_); refine ats_go (fix0 hcx) fun K hK => ?_; simp only [go_sem, seval]; refine hK _ ?_; clear hK K
      (repeat refine ats_seq ?_); first | refine ats_ifn (p := _) rfl trivial (fun h2 => ?_) (fun h2 => ?_) | refine ats_ifp (p := _) rfl trivial (fun h2 => ?_) (fun h2 => ?_) | refine ats_cond rfl trivial (fun h2 => ?_) (fun h2 => ?_)
      · (repeat refine ats_seq ?_); refine ats_go (fix0 hcx) fun K hK => ?_; simp only [go_sem, seval]; refine hK _ ?_; clear hK K
        refine ats_ret (finI rfl ?_)
        rw [← he, hst, if_pos h2]
      · refine ats_skip ?_
        (repeat refine ats_seq ?_); refine ats_go (fix0 hcx) fun K hK => ?_; simp only [go_sem, seval]; (repeat refine aI (hb := ?_)); refine hK _ ?_; clear hK K
        rw [if_neg h2] at hst
        refine ⟨(k + 1, sz2 (xs.getD k []) m),  ⟨by simp only; omega, by simp only; omega, by rw [← he, hst]⟩, by omega, .inl ⟨?_, rfl⟩⟩; simp only [leS, Nat.reduceEqDiff, ↓reduceIte, true_and, and_true]
        omega
    · refine ats_exit (lq_x ?_)
      (repeat refine ats_seq ?_); refine ats_go (fix0 hcx) fun K hK => ?_; simp only [go_sem, seval]; refine hK _ ?_; clear hK K
      refine ats_ret (finI rfl ?_)
      rw [← he, szs_end (by omega)]
theorem eqInt64SS_ok (xs ys : List (List Int)) : PureCall Tryd.prog 26 [.l2 xs, .l2 ys] (.bool (decide (xs = ys))) := by
  refine PureCall.intro (n := 27) (rs := [.tmp 4]) Tryd.call26 Tryd.func26 rfl rfl rfl (by simp only [List.length_cons, List.length_nil]; omega) (fun cx hcx => ats_of ?_); simp only [argSlots, Nat.zero_add, Nat.reduceAdd]
  (repeat refine ats_seq ?_); refine ats_go (fix0 hcx) fun K hK => ?_; simp only [go_sem, seval]; refine hK _ ?_; clear hK K
  refine ats_know 0 fun h0 => ?_; simp only [St.get, slotGet, Nat.reduceEqDiff, ↓reduceIte, if_true, fact, facts] at h0
  (repeat refine ats_seq ?_); refine ats_go (fix0 hcx) fun K hK => ?_; simp only [go_sem, seval]; refine hK _ ?_; clear hK K
  (repeat refine ats_seq ?_); first | refine ats_ifn (p := _) rfl trivial (fun hc => ?_) (fun hc => ?_) | refine ats_ifp (p := _) rfl trivial (fun hc => ?_) (fun hc => ?_) | refine ats_cond rfl trivial (fun hc => ?_) (fun hc => ?_)
  · (repeat refine ats_seq ?_); refine ats_go (fix0 hcx) fun K hK => ?_; simp only [go_sem, seval]; refine hK _ ?_; clear hK K
    refine ats_ret (finB rfl ?_)
    simp only [Bool.false_eq, decide_eq_false_iff_not]
    exact fun e => hc (by rw [e])
  · refine ats_skip ?_
    (repeat refine ats_seq ?_); refine ats_go (fix0 hcx) fun K hK => ?_; simp only [go_sem, seval]; refine hK _ ?_; clear hK K
    (repeat refine ats_seq ?_); refine ats_loop (fun k : Nat => ⟨[(0, .l2 xs), (1, .l2 ys), (5, .int k)], []⟩) (fun k => k ≤ xs.length ∧ xs.take k = ys.take k) (fun k => xs.length - k) 0 ⟨Nat.zero_le _, rfl⟩ (by
      refine And.intro ?_ rfl; simp only [leS, Nat.reduceEqDiff, ↓reduceIte, true_and, and_true]
      rfl) (fun k hk => ?_)
    (repeat refine ats_seq ?_); refine ats_go (fix0 hcx) fun K hK => ?_; simp only [go_sem, seval]; refine hK _ ?_; clear hK K
    (repeat refine ats_seq ?_); first | refine ats_ifn (p := _) rfl trivial (fun h1 => ?_) (fun h1 => ?_) | refine ats_ifp (p := _) rfl trivial (fun h1 => ?_) (fun h1 => ?_) | refine ats_cond rfl trivial (fun h1 => ?_) (fun h1 => ?_)
    · refine ats_skip ?_
      (repeat refine ats_seq ?_); refine ats_block ?_
      (repeat refine ats_seq ?_); refine ats_pick (fix0 hcx) mixed (by kernel_rfl) fun K hK => ?_; simp only [go_sem, seval]
      (repeat refine aI (hb := ?_))
      first | refine fcall_free rfl rfl (eqInt64S_ok _ _) ?_ | refine YR_intro (acall_free rfl rfl (eqInt64S_ok _ _)) ?_
      simp only [go_sem, seval]
      refine hK _ ?_; clear hK K
      (repeat refine ats_seq ?_); first | refine ats_ifn (p := _) rfl trivial (fun h2 => ?_) (fun h2 => ?_) | refine ats_ifp (p := _) rfl trivial (fun h2 => ?_) (fun h2 => ?_) | refine ats_cond rfl trivial (fun h2 => ?_) (fun h2 => ?_)
      · (repeat refine ats_seq ?_); refine ats_go (fix0 hcx) fun K hK => ?_; simp only [go_sem, seval]; refine hK _ ?_; clear hK K
        refine ats_ret (finB rfl ?_)
        simp only [Bool.false_eq, decide_eq_false_iff_not]
        exact ne_of_getD h2
      · refine ats_skip ?_
        have := h0.1
        (repeat refine ats_seq ?_); refine ats_go (fix0 hcx) fun K hK => ?_; simp only [go_sem, seval]; (repeat refine aI (hb := ?_)); refine hK _ ?_; clear hK K
        refine ⟨k + 1,  ⟨by omega, take_succ_eq (by omega) (by omega) hk.2 h2⟩, by omega, .inl ⟨?_, rfl⟩⟩; simp only [leS, Nat.reduceEqDiff, ↓reduceIte, true_and, and_true]
        omega
    · refine ats_exit (lq_x ?_)
      (repeat refine ats_seq ?_); refine ats_go (fix0 hcx) fun K hK => ?_; simp only [go_sem, seval]; refine hK _ ?_; clear hK K
      refine ats_ret (finB rfl ?_)
      have e : k = xs.length := by omega
      have h := hk.2
      rw [List.take_of_length_le (by omega), List.take_of_length_le (by omega)] at h
      simp only [h, decide_true]
theorem eqInt64SSS_ok (xs ys : List (List (List Int))) : PureCall Tryd.prog 15 [.l3 xs, .l3 ys] (.bool (decide (xs = ys))) := by
  refine PureCall.intro (n := 27) (rs := [.tmp 4]) Tryd.call15 Tryd.func15 rfl rfl rfl (by simp only [List.length_cons, List.length_nil]; omega) (fun cx hcx => ats_of ?_); simp only [argSlots, Nat.zero_add, Nat.reduceAdd]
  (repeat refine ats_seq ?_); refine ats_go (fix0 hcx) fun K hK => ?_; simp only [go_sem, seval]; refine hK _ ?_; clear hK K
  refine ats_know 0 fun h0 => ?_; simp only [St.get, slotGet, Nat.reduceEqDiff, ↓reduceIte, if_true, fact, facts] at h0
  (repeat refine ats_seq ?_); refine ats_go (fix0 hcx) fun K hK => ?_; simp only [go_sem, seval]; refine hK _ ?_; clear hK K
  (repeat refine ats_seq ?_); first | refine ats_ifn (p := _) rfl trivial (fun hc => ?_) (fun hc => ?_) | refine ats_ifp (p := _) rfl trivial (fun hc => ?_) (fun hc => ?_) | refine ats_cond rfl trivial (fun hc => ?_) (fun hc => ?_)
  · (repeat refine ats_seq ?_); refine ats_go (fix0 hcx) fun K hK => ?_; simp only [go_sem, seval]; refine hK _ ?_; clear hK K
    refine ats_ret (finB rfl ?_)
    simp only [Bool.false_eq, decide_eq_false_iff_not]
    exact fun e => hc (by rw [e])
  · refine ats_skip ?_
    (repeat refine ats_seq ?_); refine ats_go (fix0 hcx) fun K hK => ?_; simp only [go_sem, seval]; refine hK _ ?_; clear hK K
    (repeat refine ats_seq ?_); refine ats_loop (fun k : Nat => ⟨[(0, .l3 xs), (1, .l3 ys), (5, .int k)], []⟩) (fun k => k ≤ xs.length ∧ xs.take k = ys.take k) (fun k => xs.length - k) 0 ⟨Nat.zero_le _, rfl⟩ (by
      refine And.intro ?_ rfl; simp only [leS, Nat.reduceEqDiff, ↓reduceIte, true_and, and_true]
      rfl) (fun k hk => ?_)
    (repeat refine ats_seq ?_); refine ats_go (fix0 hcx) fun K hK => ?_; simp only [go_sem, seval]; refine hK _ ?_; clear hK K
    (repeat refine ats_seq ?_); first | refine ats_ifn (p := _) rfl trivial (fun h1 => ?_) (fun h1 => ?_) | refine ats_ifp (p := _) rfl trivial (fun h1 => ?_) (fun h1 => ?_) | refine ats_cond rfl trivial (fun h1 => ?_) (fun h1 => ?_)
    · refine ats_skip ?_
      (repeat refine ats_seq ?_); refine ats_block ?_
      (repeat refine ats_seq ?_); refine ats_pick (fix0 hcx) mixed (by kernel_rfl) fun K hK => ?_; simp only [go_sem, seval]
      (repeat refine aI (hb := ?_))
      first | refine fcall_free rfl rfl (eqInt64SS_ok _ _) ?_ | refine YR_intro (acall_free rfl rfl (eqInt64SS_ok _ _)) ?_
      simp only [go_sem, seval]
      refine hK _ ?_; clear hK K
      (repeat refine ats_seq ?_); first | refine ats_ifn (p := _) rfl trivial (fun h2 => ?_) (fun h2 => ?_) | refine ats_ifp (p := _) rfl trivial (fun h2 => ?_) (fun h2 => ?_) | refine ats_cond rfl trivial (fun h2 => ?_) (fun h2 => ?_)
      · (repeat refine ats_seq ?_); refine ats_go (fix0 hcx) fun K hK => ?_; simp only [go_sem, seval]; refine hK _ ?_; clear hK K
        refine ats_ret (finB rfl ?_)
        simp only [Bool.false_eq, decide_eq_false_iff_not]
        exact ne_of_getD h2
      · refine ats_skip ?_
        have := h0.1
        (repeat refine ats_seq ?_); refine ats_go (fix0 hcx) fun K hK => ?_; simp only [go_sem, seval]; (repeat refine aI (hb := ?_)); refine hK _ ?_; clear hK K
        refine ⟨k + 1,  ⟨by omega, take_succ_eq (by omega) (by omega) hk.2 h2⟩, by omega, .inl ⟨?_, rfl⟩⟩; simp only [leS, Nat.reduceEqDiff, ↓reduceIte, true_and, and_true]
        omega
    · refine ats_exit (lq_x ?_)
      (repeat refine ats_seq ?_); refine ats_go (fix0 hcx) fun K hK => ?_; simp only [go_sem, seval]; refine hK _ ?_; clear hK K
      refine ats_ret (finB rfl ?_)
      have e : k = xs.length := by omega
      have h := hk.2
      rw [List.take_of_length_le (by omega), List.take_of_length_le (by omega)] at h
      simp only [h, decide_true]

theorem szRing_ok (t : List (List (List Int))) (l : Int) (hl : 0 ≤ l) : PureCall Tryd.prog 4 [.agg [.l3 t], .int l] (.int (sz3 t l)) := by
  refine PureCall.intro (n := 12) (rs := [.tmp 4]) Tryd.call4 Tryd.func4 rfl rfl rfl (by simp only [List.length_cons, List.length_nil]; omega) (fun cx hcx => ats_of ?_); simp only [argSlots, Nat.zero_add, Nat.reduceAdd]
  (repeat refine ats_seq ?_); refine ats_go (fix0 hcx) fun K hK => ?_; simp only [go_sem, seval]; refine hK _ ?_; clear hK K
  (repeat refine ats_seq ?_); refine ats_go (fix0 hcx) fun K hK => ?_; simp only [go_sem, seval]
  first | refine fcall_free rfl rfl (szInt64SSS_ok _ _ hl) ?_ | refine YR_intro (acall_free rfl rfl (szInt64SSS_ok _ _ hl)) ?_
  simp only [go_sem, seval]
  refine hK _ ?_; clear hK K
  have h3 := sz3_ok t l hl
  (repeat refine ats_seq ?_); refine ats_go (fix0 hcx) fun K hK => ?_; simp only [go_sem, seval]; refine hK _ ?_; clear hK K
  (repeat refine ats_seq ?_); first | refine ats_ifn (p := _) rfl trivial (fun hc => ?_) (fun hc => ?_) | refine ats_ifp (p := _) rfl trivial (fun hc => ?_) (fun hc => ?_) | refine ats_cond rfl trivial (fun hc => ?_) (fun hc => ?_)
  · (repeat refine ats_seq ?_); refine ats_go (fix0 hcx) fun K hK => ?_; simp only [go_sem, seval]; refine hK _ ?_; clear hK K
    refine ats_ret (finI rfl ?_)
    omega
  · refine ats_skip ?_
    (repeat refine ats_seq ?_); refine ats_go (fix0 hcx) fun K hK => ?_; simp only [go_sem, seval]; refine hK _ ?_; clear hK K
    refine ats_ret (finI rfl ?_)
    rfl

theorem eqRing_ok (t t' : List (List (List Int))) : PureCall Tryd.prog 8 [.agg [.l3 t], .agg [.l3 t']] (.bool (decide (t = t'))) := by
  refine PureCall.intro (n := 11) (rs := [.tmp 4]) Tryd.call8 Tryd.func8 rfl rfl rfl (by simp only [List.length_cons, List.length_nil]; omega) (fun cx hcx => ats_of ?_); simp only [argSlots, Nat.zero_add, Nat.reduceAdd]
  (repeat refine ats_seq ?_); refine ats_go (fix0 hcx) fun K hK => ?_; simp only [go_sem, seval]; refine hK _ ?_; clear hK K
  (repeat refine ats_seq ?_); refine ats_go (fix0 hcx) fun K hK => ?_; simp only [go_sem, seval]
  first | refine fcall_free rfl rfl (eqInt64SSS_ok _ _) ?_ | refine YR_intro (acall_free rfl rfl (eqInt64SSS_ok _ _)) ?_
  simp only [go_sem, seval]
  refine hK _ ?_; clear hK K
  (repeat refine ats_seq ?_); first | refine ats_ifn (p := _) rfl trivial (fun hc => ?_) (fun hc => ?_) | refine ats_ifp (p := _) rfl trivial (fun hc => ?_) (fun hc => ?_) | refine ats_cond rfl trivial (fun hc => ?_) (fun hc => ?_)
  · (repeat refine ats_seq ?_); refine ats_go (fix0 hcx) fun K hK => ?_; simp only [go_sem, seval]; refine hK _ ?_; clear hK K
    refine ats_ret (finB rfl ?_)
    simp only [Bool.false_eq, decide_eq_false_iff_not]; exact hc
  · refine ats_skip ?_
    (repeat refine ats_seq ?_); refine ats_go (fix0 hcx) fun K hK => ?_; simp only [go_sem, seval]; refine hK _ ?_; clear hK K
    refine ats_ret (finB rfl ?_)
    simp only [hc, decide_true]

end Go.Proofs.YtgaclhdmhipagaaDoor

namespace Go.Proofs.YtgaclhdmhipagaaDoor
open Go Go.Aw Go.Pl

theorem toInt64S_ok (xs : List Int) (hl : xs.length ≤ 1099511627776) : FreshCall Tryd.prog 30 [.l1 xs] (.l1 xs) := by
  refine FreshCall.intro (n := 22) (rs := [.tmp 2]) Tryd.call30 Tryd.func30 rfl rfl rfl (by simp only [List.length_cons, List.length_nil]; omega) (fun cx hcx => ats_of ?_); simp only [argSlots, Nat.zero_add, Nat.reduceAdd]
  (repeat refine ats_seq ?_); refine ats_go (fix0 hcx) fun K hK => ?_; simp only [go_sem, seval]; refine hK _ ?_; clear hK K
  refine ats_know 0 fun h0 => ?_; simp only [St.get, slotGet, Nat.reduceEqDiff, ↓reduceIte, if_true, fact, facts] at h0
  (repeat refine ats_seq ?_); refine ats_go (fix0 hcx) fun K hK => ?_; simp only [go_sem, seval]; (repeat refine aI (hb := ?_)); refine hK _ ?_; clear hK K
  (repeat refine ats_seq ?_); refine ats_go (fix0 hcx) fun K hK => ?_; simp only [go_sem, seval]; refine hK _ ?_; clear hK K
  (repeat refine ats_seq ?_); refine ats_loop (fun k : Nat => ⟨[(0, .l1 xs), (3, .ref 0 []), (4, .int k)], [(0, .t1 (fill 0 xs k))]⟩) (fun k => k ≤ xs.length) (fun k => xs.length - k) 0 (Nat.zero_le _) (by
    refine And.intro ?_ (by simp only [fill_zero])
    simp only [SlotsLe, St.get, slotGet, Nat.reduceEqDiff, ↓reduceIte, true_and, and_true]
    rfl) (fun k hk => ?_)
  (repeat refine ats_seq ?_); refine ats_go (fix0 hcx) fun K hK => ?_; simp only [go_sem, seval]; refine hK _ ?_; clear hK K
  (repeat refine ats_seq ?_); first | refine ats_ifn (p := _) rfl trivial (fun h1 => ?_) (fun h1 => ?_) | refine ats_ifp (p := _) rfl trivial (fun h1 => ?_) (fun h1 => ?_) | refine ats_cond rfl trivial (fun h1 => ?_) (fun h1 => ?_)
  · refine ats_skip ?_
    (repeat refine ats_seq ?_); refine ats_block ?_
    have hfl := fill_length (d := (0 : Int)) hk
    (repeat refine ats_seq ?_); refine ats_go (fix0 hcx) fun K hK => ?_; simp only [go_sem, seval]
    (repeat refine And.intro (by (first | omega | (rw [fill_length hk]; omega))) ?_)
    refine hK _ ?_; clear hK K
    (repeat refine ats_seq ?_); refine ats_go (fix0 hcx) fun K hK => ?_; simp only [go_sem, seval]; (repeat refine aI (hb := ?_)); refine hK _ ?_; clear hK K
    refine ⟨k + 1,  by omega, by omega, .inl ⟨by simp only [leS, Nat.reduceEqDiff, ↓reduceIte, true_and, and_true]; omega,  by simp only [fill_step (show k < xs.length by omega)]⟩⟩
  · refine ats_exit (lq_x ?_)
    (repeat refine ats_seq ?_); refine ats_go (fix0 hcx) fun K hK => ?_; simp only [go_sem, seval]; refine hK _ ?_; clear hK K
    simp only [fill_all (d := (0 : Int)) (show xs.length ≤ k by omega)]
    exact ats_ret (ownV rfl ⟨rfl, trivial⟩ rfl (by simp))

theorem toInt64SS_ok (xs : List (List Int)) (hl : xs.length ≤ 1099511627776 ∧ ∀ x ∈ xs, x.length ≤ 1099511627776) : FreshCall Tryd.prog 20 [.l2 xs] (.l2 xs) := by
  refine FreshCall.intro (n := 23) (rs := [.tmp 2]) Tryd.call20 Tryd.func20 rfl rfl rfl (by simp only [List.length_cons, List.length_nil]; omega) (fun cx hcx => ats_of ?_); simp only [argSlots, Nat.zero_add, Nat.reduceAdd]
  (repeat refine ats_seq ?_); refine ats_go (fix0 hcx) fun K hK => ?_; simp only [go_sem, seval]; refine hK _ ?_; clear hK K
  refine ats_know 0 fun h0 => ?_; simp only [St.get, slotGet, Nat.reduceEqDiff, ↓reduceIte, if_true, fact, facts] at h0
  have hl0 := hl.1
  (repeat refine ats_seq ?_); refine ats_go (fix0 hcx) fun K hK => ?_; simp only [go_sem, seval]; (repeat refine aI (hb := ?_)); refine hK _ ?_; clear hK K
  (repeat refine ats_seq ?_); refine ats_go (fix0 hcx) fun K hK => ?_; simp only [go_sem, seval]; refine hK _ ?_; clear hK K
  (repeat refine ats_seq ?_); refine ats_loop (fun k : Nat => ⟨[(0, .l2 xs), (3, .ref 0 []), (4, .int k)], [(0, .t2 (fill [] xs k))]⟩) (fun k => k ≤ xs.length) (fun k => xs.length - k) 0 (Nat.zero_le _) (by
    refine And.intro ?_ (by simp only [fill_zero])
    simp only [SlotsLe, St.get, slotGet, Nat.reduceEqDiff, ↓reduceIte, true_and, and_true]
    rfl) (fun k hk => ?_)
  (repeat refine ats_seq ?_); refine ats_go (fix0 hcx) fun K hK => ?_; simp only [go_sem, seval]; refine hK _ ?_; clear hK K
  (repeat refine ats_seq ?_); first | refine ats_ifn (p := _) rfl trivial (fun h1 => ?_) (fun h1 => ?_) | refine ats_ifp (p := _) rfl trivial (fun h1 => ?_) (fun h1 => ?_) | refine ats_cond rfl trivial (fun h1 => ?_) (fun h1 => ?_)
  · refine ats_skip ?_
    (repeat refine ats_seq ?_); refine ats_block ?_
    have hfl := fill_length (d := ([] : List Int)) hk
    (repeat refine ats_seq ?_); refine ats_go (fix0 hcx) fun K hK => ?_; simp only [go_sem, seval]
    (repeat refine aI (hb := ?_))
    refine fcall_own rfl (toInt64S_ok (xs.getD k []) (hl.2 _ (getD_mem (by omega)))) rfl ?_; simp only [go_sem, seval]
    (repeat refine And.intro (by (first | omega | (rw [fill_length hk]; omega))) ?_)
    refine hK _ ?_; clear hK K
    (repeat refine ats_seq ?_); refine ats_go (fix0 hcx) fun K hK => ?_; simp only [go_sem, seval]; (repeat refine aI (hb := ?_)); refine hK _ ?_; clear hK K
    refine ⟨k + 1,  by omega, by omega, .inl ⟨by simp only [leS, Nat.reduceEqDiff, ↓reduceIte, true_and, and_true]; omega,  by simp only [fill_step (show k < xs.length by omega)]⟩⟩
  · refine ats_exit (lq_x ?_)
    (repeat refine ats_seq ?_); refine ats_go (fix0 hcx) fun K hK => ?_; simp only [go_sem, seval]; refine hK _ ?_; clear hK K
    simp only [fill_all (d := ([] : List Int)) (show xs.length ≤ k by omega)]
    exact ats_ret (ownV rfl ⟨rfl, trivial⟩ rfl (by simp))

theorem toInt64SSS_ok (xs : List (List (List Int))) (hl : xs.length ≤ 1099511627776 ∧ ∀ x ∈ xs, x.length ≤ 1099511627776 ∧ ∀ y ∈ x, y.length ≤ 1099511627776) : FreshCall Tryd.prog 12 [.l3 xs] (.l3 xs) := by
  refine FreshCall.intro (n := 23) (rs := [.tmp 2]) Tryd.call12 Tryd.func12 rfl rfl rfl (by simp only [List.length_cons, List.length_nil]; omega) (fun cx hcx => ats_of ?_); simp only [argSlots, Nat.zero_add, Nat.reduceAdd]
  (repeat refine ats_seq ?_); refine ats_go (fix0 hcx) fun K hK => ?_; simp only [go_sem, seval]; refine hK _ ?_; clear hK K
  refine ats_know 0 fun h0 => ?_; simp only [St.get, slotGet, Nat.reduceEqDiff, ↓reduceIte, if_true, fact, facts] at h0
  have hl0 := hl.1
  (repeat refine ats_seq ?_); refine ats_go (fix0 hcx) fun K hK => ?_; simp only [go_sem, seval]; (repeat refine aI (hb := ?_)); refine hK _ ?_; clear hK K
  (repeat refine ats_seq ?_); refine ats_go (fix0 hcx) fun K hK => ?_; simp only [go_sem, seval]; refine hK _ ?_; clear hK K
  (repeat refine ats_seq ?_); refine ats_loop (fun k : Nat => ⟨[(0, .l3 xs), (3, .ref 0 []), (4, .int k)], [(0, .t3 (fill [] xs k))]⟩) (fun k => k ≤ xs.length) (fun k => xs.length - k) 0 (Nat.zero_le _) (by
    refine And.intro ?_ (by simp only [fill_zero])
    simp only [SlotsLe, St.get, slotGet, Nat.reduceEqDiff, ↓reduceIte, true_and, and_true]
    rfl) (fun k hk => ?_)
  (repeat refine ats_seq ?_); refine ats_go (fix0 hcx) fun K hK => ?_; simp only [go_sem, seval]; refine hK _ ?_; clear hK K
  (repeat refine ats_seq ?_); first | refine ats_ifn (p := _) rfl trivial (fun h1 => ?_) (fun h1 => ?_) | refine ats_ifp (p := _) rfl trivial (fun h1 => ?_) (fun h1 => ?_) | refine ats_cond rfl trivial (fun h1 => ?_) (fun h1 => ?_)
  · refine ats_skip ?_
    (repeat refine ats_seq ?_); refine ats_block ?_
    have hfl := fill_length (d := ([] : List (List Int))) hk
    (repeat refine ats_seq ?_); refine ats_go (fix0 hcx) fun K hK => ?_; simp only [go_sem, seval]
    (repeat refine aI (hb := ?_))
    refine fcall_own rfl (toInt64SS_ok (xs.getD k []) (hl.2 _ (getD_mem (by omega)))) rfl ?_; simp only [go_sem, seval]
    (repeat refine And.intro (by (first | omega | (rw [fill_length hk]; omega))) ?_)
    refine hK _ ?_; clear hK K
    (repeat refine ats_seq ?_); refine ats_go (fix0 hcx) fun K hK => ?_; simp only [go_sem, seval]; (repeat refine aI (hb := ?_)); refine hK _ ?_; clear hK K
    refine ⟨k + 1,  by omega, by omega, .inl ⟨by simp only [leS, Nat.reduceEqDiff, ↓reduceIte, true_and, and_true]; omega,  by simp only [fill_step (show k < xs.length by omega)]⟩⟩
  · refine ats_exit (lq_x ?_)
    (repeat refine ats_seq ?_); refine ats_go (fix0 hcx) fun K hK => ?_; simp only [go_sem, seval]; refine hK _ ?_; clear hK K
    simp only [fill_all (d := ([] : List (List Int))) (show xs.length ≤ k by omega)]
    exact ats_ret (ownV rfl ⟨rfl, trivial⟩ rfl (by simp))
end Go.Proofs.YtgaclhdmhipagaaDoor

namespace Go.Proofs.YtgaclhdmhipagaaDoor
open Go Go.Aw Go.Pl

def Small3 (t : List (List (List Int))) : Prop := t.length ≤ 1099511627776 ∧ ∀ x ∈ t, x.length ≤ 1099511627776 ∧ ∀ y ∈ x, y.length ≤ 1099511627776

theorem toRing_ok (t : List (List (List Int))) (hl : Small3 t) : FreshCall Tryd.prog 6 [.agg [.l3 t]] (.agg [.l3 t]) := by
  refine FreshCall.intro (n := 9) (rs := [.cell 2 28]) Tryd.call6 Tryd.func6 rfl rfl rfl (by simp only [List.length_cons, List.length_nil]; omega) (fun cx hcx => ats_of ?_); simp only [argSlots, Nat.zero_add, Nat.reduceAdd]
  (repeat refine ats_seq ?_); refine ats_go (fix0 hcx) fun K hK => ?_; simp only [go_sem, seval]; refine hK _ ?_; clear hK K
  (repeat refine ats_seq ?_); refine ats_go (fix0 hcx) fun K hK => ?_; simp only [go_sem, seval]; refine hK _ ?_; clear hK K
  (repeat refine ats_seq ?_); refine ats_go (fix0 hcx) fun K hK => ?_; simp only [go_sem, seval]
  refine fcall_own rfl (toInt64SSS_ok t hl) rfl ?_; simp only [go_sem, seval]
  refine hK _ ?_; clear hK K
  (repeat refine ats_seq ?_); refine ats_go (fix0 hcx) fun K hK => ?_; simp only [go_sem, seval]; refine hK _ ?_; clear hK K
  exact ats_ret (ownC (v := .agg [.ref 3 []]) (by simp only [go_sem, seval]) rfl (by simp))

end Go.Proofs.YtgaclhdmhipagaaDoor

namespace Go.Proofs.YtgaclhdmhipagaaDoor
open Go Go.Aw Go.Pl

end Go.Proofs.YtgaclhdmhipagaaDoor

namespace Go.Proofs.YtgaclhdmhipagaaDoor
open Go Go.Aw Go.Pl

theorem own_nil {w : World} {fp : List Nat} {v : Value} (h : ownR w fp .nil v) : ownR w fp (.l1 []) v := by
  simp only [ownR] at h ⊢
  exact ⟨.inl ⟨h.2, rfl, h.1⟩, by simp⟩
theorem fresh_nil {P : Program} {f : FuncId} {ds : List AV} {c : Int} (h : FreshCall P f ds (.tup [.nil, .int c])) : FreshCall P f ds (.tup [.l1 [], .int c]) :=
  ⟨h.enter, fun vs w S hS hd => (h.runs vs w S hS hd).mono fun e w' ⟨v, fp, h1, h2, h3, h4, h5⟩ => ⟨v, fp, h1, h2, by
    simp only [ownR] at h3 ⊢
    obtain ⟨us, hu, hr⟩ := h3
    refine ⟨us, hu, ?_⟩
    simp only [ownRs] at hr ⊢
    obtain ⟨u, us', f1, g, e1, e2, e3, e4⟩ := hr
    exact ⟨u, us', f1, g, e1, e2, own_nil e3, e4⟩, h4, h5⟩⟩
theorem rep_nil {m : Mem} {v : Value} (h : rep m .nil v) : rep m (.l1 []) v := by
  simp only [rep] at h ⊢
  exact ⟨.inl ⟨⟨none, h⟩, rfl⟩, by simp⟩
theorem pure_nil {P : Program} {f : FuncId} {ds : List AV} {c : Int} (h : PureCall P f ds (.tup [.nil, .int c])) : PureCall P f ds (.tup [.l1 [], .int c]) :=
  ⟨h.enter, fun vs w S hS hd => (h.runs vs w S hS hd).mono fun e w' ⟨v, h1, h2, h3⟩ => ⟨v, h1, h2, by
    unfold Rd at h3 ⊢
    simp only [rep] at h3 ⊢
    obtain ⟨us, hu, hr⟩ := h3
    refine ⟨us, hu, ?_⟩
    simp only [reps] at hr ⊢
    obtain ⟨u, us', e1, e2, e3⟩ := hr
    exact ⟨u, us', e1, rep_nil e2, e3⟩⟩⟩

theorem szs_cost {α : Type} {f : α → Int → Int} {n : α → Nat} {p : α → Prop} (B : Int) (hf : ∀ x l, 0 ≤ l → l ≤ B → ¬ f x l < 0 → p x ∧ f x l ≤ l - (n x : Nat)) : ∀ (xs : List α) (l : Int), 0 ≤ l → l ≤ B → ¬ szs f xs l < 0 → (∀ x ∈ xs, p x) ∧ szs f xs l ≤ l - (tot n xs : Nat)
  | [], l, _, _, _ => by simp [szs, tot]
  | x :: xs, l, h0, hB, h => by
    simp only [szs] at h ⊢
    by_cases h1 : f x l < 0
    · rw [if_pos h1] at h; exact absurd (by decide) h
    · rw [if_neg h1] at h ⊢
      obtain ⟨k1, k2⟩ := hf x l h0 hB h1
      obtain ⟨j1, j2⟩ := szs_cost B hf xs (f x l) (by omega) (by omega) h
      refine ⟨fun y hy => ?_, by simp only [tot]; omega⟩
      rcases List.mem_cons.1 hy with rfl | hy
      · exact k1
      · exact j1 y hy
theorem sz0_cost {α : Type} {f : α → Int → Int} {n : α → Nat} {p : α → Prop} (B : Int) (hf : ∀ x l, 0 ≤ l → l ≤ B → ¬ f x l < 0 → p x ∧ f x l ≤ l - (n x : Nat)) (xs : List α) (l : Int) (hB : l ≤ B) (h : ¬ sz0 f xs l < 0) : ((xs.length : Int) ≤ B ∧ ∀ x ∈ xs, p x) ∧ sz0 f xs l ≤ l - (tot n xs : Nat) := by
  unfold sz0 at h ⊢
  by_cases h1 : l - xs.length < 0
  · rw [if_pos h1] at h; exact absurd (by decide) h
  · rw [if_neg h1] at h ⊢
    obtain ⟨j1, j2⟩ := szs_cost B hf xs (l - xs.length) (by omega) (by omega) h
    exact ⟨⟨by omega, j1⟩, by omega⟩
theorem sz3_small {t : List (List (List Int))} {l : Int} (hl : l ≤ 1048576) (h : ¬ sz3 t l < 0) (_h0 : 0 ≤ l) : Small3 t ∧ (tot3 t : Nat) ≤ l := by
  have c1 : ∀ (x : List Int) (l : Int), 0 ≤ l → l ≤ 1048576 → ¬ sz1 x l < 0 → (x.length : Int) ≤ 1048576 ∧ sz1 x l ≤ l - (x.length : Nat) := fun x l _ hl h => by
    unfold sz1 at h ⊢
    by_cases h1 : l - x.length < 0
    · rw [if_pos h1] at h; exact absurd (by decide) h
    · rw [if_neg h1]; omega
  have c2 := fun (x : List (List Int)) (l : Int) (_ : 0 ≤ l) (hl : l ≤ 1048576) (h : ¬ sz2 x l < 0) => sz0_cost (n := List.length) (p := fun x => (x.length : Int) ≤ 1048576) 1048576 c1 x l hl h
  have c3 := sz0_cost (f := sz2) (n := tot List.length) (p := fun x => (x.length : Int) ≤ 1048576 ∧ ∀ y ∈ x, (y.length : Int) ≤ 1048576) 1048576 c2 t l hl h
  have hpos := (sz3_ok t l _h0).resolve_left (fun e => h (by rw [e]; decide))
  obtain ⟨⟨k1, k2⟩, k3⟩ := c3
  refine ⟨⟨by omega, fun x hx => ⟨by have := (k2 x hx).1; omega, fun y hy => by have := (k2 x hx).2 y hy; omega⟩⟩, ?_⟩
  have : sz3 t l ≤ l - (tot3 t : Nat) := k3
  omega

theorem sz1_small {x : List Int} {l : Int} (hl : l ≤ 1048576) (h : ¬ sz1 x l < 0) (_h0 : 0 ≤ l) : x.length ≤ 1099511627776 ∧ (x.length : Int) ≤ l := by
  unfold sz1 at h
  by_cases h1 : l - x.length < 0
  · rw [if_pos h1] at h; exact absurd (by decide) h
  · omega
/-- What both return, a list or none and a code, as a list and a code. -/
theorem listRes {P : Program} {f g : FuncId} {ds : List AV} {r : AV} (hs : PureCall P f ds r) (hi : FreshCall P g ds r) (h : ∃ (u : Option (List Int)) (c : Int), r = .tup [optA u, .int c] ∧ ∀ v, u = some v → v.length ≤ 1048576) :
    ∃ u c, PureCall P f ds (.tup [.l1 u, .int c]) ∧ FreshCall P g ds (.tup [.l1 u, .int c]) ∧ u.length ≤ 1048576 := by
  obtain ⟨u, c, rfl, hu⟩ := h
  cases u with
  | none => exact ⟨[], c, pure_nil hs, fresh_nil hi, by simp⟩
  | some u => exact ⟨u, c, hs, hi, hu u rfl⟩
end Go.Proofs.YtgaclhdmhipagaaDoor
