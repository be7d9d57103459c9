import Derived.Test.YtakhnoenhmpfpaaGreatDa
import Derived.Test.YtakhnoenhmpfpaaGreatPl2
set_option linter.unusedSimpArgs false
set_option linter.unusedVariables false
namespace Go.Proofs.YtakhnoenhmpfpaaGreat
open Go Go.Aw Go.Pl
theorem l01Number_ok (x : Int) : PureCall Tryz.prog 54 [.int x] (.bool (decide (0 ≤ x) && decide (x ≤ 55440))) := by
  refine PureCall.intro (n := 5) (rs := [.tmp 2]) Tryz.call54 Tryz.func54 rfl rfl rfl (by simp only [List.length_cons, List.length_nil]; omega) (fun cx hcx => ats_of ?_); simp only [argSlots, Nat.zero_add, Nat.reduceAdd]
  (repeat refine ats_seq ?_); refine ats_go (fix0 hcx) fun K hK => ?_; simp only [go_sem, seval]; refine hK _ ?_; clear hK K
  (repeat refine ats_seq ?_); refine ats_go (fix0 hcx) fun K hK => ?_; simp only [go_sem, seval]
  first | refine fcall_data (l01In_ok x 0 55440) rfl ?_ | refine YR_intro (acall_data (l01In_ok x 0 55440) rfl) ?_
  simp only [go_sem, seval]
  refine hK _ ?_; clear hK K
  refine ats_ret (finB rfl ?_)
  rfl
theorem l01Numbers_ok (xs : List Int) : PureCall Tryz.prog 33 [.l1 xs] (.bool (numsB xs)) := by
  refine PureCall.intro (n := 16) (rs := [.tmp 2]) Tryz.call33 Tryz.func33 rfl rfl rfl (by simp only [List.length_cons, List.length_nil]; omega) (fun cx hcx => ats_of ?_); simp only [argSlots, Nat.zero_add, Nat.reduceAdd]
  (repeat refine ats_seq ?_); refine ats_go (fix0 hcx) fun K hK => ?_; simp only [go_sem, seval]; refine hK _ ?_; clear hK K
  refine ats_know 0 fun h0 => ?_; simp only [St.get, slotGet, Nat.reduceEqDiff, ↓reduceIte, if_true, fact, facts] at h0
  have hlen := h0.1
  (repeat refine ats_seq ?_); refine ats_go (fix0 hcx) fun K hK => ?_; simp only [go_sem, seval]; refine hK _ ?_; clear hK K
  (repeat refine ats_seq ?_); refine ats_loop (fun k : Nat => ⟨[(0, .l1 xs), (3, .int k)], []⟩) (fun k => k ≤ xs.length ∧ ∀ b, b < k → InP (xs.getD b 0)) (fun k => xs.length - k) 0 ⟨Nat.zero_le _, fun a h => absurd h (Nat.not_lt_zero a)⟩ (by refine And.intro ?_ rfl; simp only [SlotsLe, St.get, slotGet, Nat.reduceEqDiff, ↓reduceIte, AV.int.injEq, AV.bool.injEq, AV.l1.injEq, AV.l2.injEq, AV.l3.injEq, true_and, and_true]; rfl) (fun k hk => ?_); obtain ⟨hk, Hk⟩ := hk
  (repeat refine ats_seq ?_); refine ats_go (fix0 hcx) fun K hK => ?_; simp only [go_sem, seval]; refine hK _ ?_; clear hK K
  (repeat refine ats_seq ?_); first | refine ats_ifn (p := _) rfl trivial (fun hlk => ?_) (fun hlk => ?_) | refine ats_ifp (p := _) rfl trivial (fun hlk => ?_) (fun hlk => ?_) | refine ats_cond rfl trivial (fun hlk => ?_) (fun hlk => ?_)
  · refine ats_skip ?_
    (repeat refine ats_seq ?_); refine ats_block ?_
    (repeat refine ats_seq ?_); refine ats_go (fix0 hcx) fun K hK => ?_; simp only [go_sem, seval]
    (repeat refine And.intro (by first | omega | (intro hq; first | omega | (simp at hq <;> omega) | (simp_all <;> omega))) ?_)
    first | refine fcall_data (l01Number_ok _) rfl ?_ | refine YR_intro (acall_data (l01Number_ok _) rfl) ?_
    simp only [go_sem, seval]
    refine hK _ ?_; clear hK K
    (repeat refine ats_seq ?_); first | refine ats_ifn (p := _) rfl trivial (fun h6 => ?_) (fun h6 => ?_) | refine ats_ifp (p := _) rfl trivial (fun h6 => ?_) (fun h6 => ?_) | refine ats_cond rfl trivial (fun h6 => ?_) (fun h6 => ?_)
    · (repeat refine ats_seq ?_); refine ats_go (fix0 hcx) fun K hK => ?_; simp only [go_sem, seval]; refine hK _ ?_; clear hK K
      refine ats_ret (finB rfl ?_)
      refine (Bool.eq_false_iff.2 (fun h => ?_)).symm
      have hm := numsB_iff.1 h k (by omega)
      simp only [Bool.not_eq_true', Bool.and_eq_false_iff, decide_eq_false_iff_not] at h6
      exact h6.elim (fun h => h hm.1) (fun h => h hm.2)
    · simp only [Bool.not_eq_false', Bool.and_eq_true, decide_eq_true_eq] at h6
      refine ats_skip ?_
      (repeat refine ats_seq ?_); refine ats_go (fix0 hcx) fun K hK => ?_; simp only [go_sem, seval]; (repeat refine And.intro (by first | omega | (intro hq; first | omega | (simp at hq <;> omega) | (simp_all <;> omega))) ?_); refine hK _ ?_; clear hK K
      refine ⟨k + 1, ⟨by omega, fun a ha => by rcases Nat.lt_succ_iff_lt_or_eq.1 ha with h | rfl; exact Hk a h; exact h6⟩, by omega, .inl ⟨?_, rfl⟩⟩; simp only [SlotsLe, St.get, slotGet, Nat.reduceEqDiff, ↓reduceIte, AV.int.injEq, AV.bool.injEq, AV.l1.injEq, AV.l2.injEq, AV.l3.injEq, true_and, and_true]; omega
  · refine ats_exit (lq_x ?_)
    (repeat refine ats_seq ?_); refine ats_go (fix0 hcx) fun K hK => ?_; simp only [go_sem, seval]; refine hK _ ?_; clear hK K
    refine ats_ret (finB rfl ?_)
    exact (numsB_iff.2 (fun k' hk' => Hk k' (by omega))).symm
theorem l12Shape_ok (s : List (List Int)) (t : List Int) : PureCall Tryz.prog 24 [.agg [.l2 s, .l1 t]] (.bool (bd (Shape s t))) := by
  refine PureCall.intro (n := 49) (rs := [.tmp 2]) Tryz.call24 Tryz.func24 rfl rfl rfl (by simp only [List.length_cons, List.length_nil]; omega) (fun cx hcx => ats_of ?_); simp only [argSlots, Nat.zero_add, Nat.reduceAdd]
  (repeat refine ats_seq ?_); refine ats_go (fix0 hcx) fun K hK => ?_; simp only [go_sem, seval]; refine hK _ ?_; clear hK K
  (repeat refine ats_seq ?_); refine ats_go (fix0 hcx) fun K hK => ?_; simp only [go_sem, seval]; refine hK _ ?_; clear hK K
  by_cases h1 : t.length < 1
  · have h1' : ((t.length : Int) < 1) := by omega
    (repeat refine ats_seq ?_); refine ats_go (fix0 hcx) fun K hK => ?_; simp only [go_sem, seval]
    simp only [h1', decide_true, Bool.not_true, Bool.not_false]
    simp only [go_sem, seval]
    refine YR_intro (v := .bool false) (by first | trivial | (intro h; cases h)) ?_
    simp only [go_sem, seval]
    refine hK _ ?_; clear hK K
    (repeat refine ats_seq ?_); refine ats_yes rfl trivial ?_
    (repeat refine ats_seq ?_); refine ats_go (fix0 hcx) fun K hK => ?_; simp only [go_sem, seval]; refine hK _ ?_; clear hK K
    refine ats_ret (finB rfl ?_)
    exact (bd_false (fun h => by have := h.1; omega)).symm
  · have h1' : ¬ ((t.length : Int) < 1) := by omega
    by_cases h2 : 16 < t.length
    · have h2' : ((16 : Int) < t.length) := by omega
      (repeat refine ats_seq ?_); refine ats_go (fix0 hcx) fun K hK => ?_; simp only [go_sem, seval]
      simp only [h1', h2', decide_true, decide_false, Bool.not_true, Bool.not_false]
      simp only [go_sem, seval]
      refine YR_intro (v := .bool false) (by first | trivial | (intro h; cases h)) ?_
      simp only [go_sem, seval]
      refine hK _ ?_; clear hK K
      (repeat refine ats_seq ?_); refine ats_yes rfl trivial ?_
      (repeat refine ats_seq ?_); refine ats_go (fix0 hcx) fun K hK => ?_; simp only [go_sem, seval]; refine hK _ ?_; clear hK K
      refine ats_ret (finB rfl ?_)
      exact (bd_false (fun h => by have := h.2.1; omega)).symm
    · have h2' : ¬ ((16 : Int) < t.length) := by omega
      by_cases h3 : s.length = t.length
      · have h3' : (s.length : Int) = t.length := by omega
        cases hN : numsB t with
        | false =>
          have hk := l01Numbers_ok t
          rw [hN] at hk
          (repeat refine ats_seq ?_); refine ats_go (fix0 hcx) fun K hK => ?_; simp only [go_sem, seval]
          simp only [h1', h2', h3', decide_true, decide_false, Bool.not_true, Bool.not_false]
          simp only [go_sem, seval]
          first | refine YR_intro (fun _ => acall_free rfl rfl (hk)) ?_ | refine YR_intro (acall_free rfl rfl (hk)) ?_
          simp only [go_sem, seval]
          refine hK _ ?_; clear hK K
          (repeat refine ats_seq ?_); refine ats_yes rfl trivial ?_
          (repeat refine ats_seq ?_); refine ats_go (fix0 hcx) fun K hK => ?_; simp only [go_sem, seval]; refine hK _ ?_; clear hK K
          refine ats_ret (finB rfl ?_)
          exact (bd_false (fun h => by have := numsB_iff.2 h.2.2.2; rw [hN] at this; cases this)).symm
        | true =>
          have hk := l01Numbers_ok t
          rw [hN] at hk
          (repeat refine ats_seq ?_); refine ats_go (fix0 hcx) fun K hK => ?_; simp only [go_sem, seval]
          simp only [h1', h2', h3', decide_true, decide_false, Bool.not_true, Bool.not_false]
          simp only [go_sem, seval]
          first | refine YR_intro (fun _ => acall_free rfl rfl (hk)) ?_ | refine YR_intro (acall_free rfl rfl (hk)) ?_
          simp only [go_sem, seval]
          refine hK _ ?_; clear hK K
          (repeat refine ats_seq ?_); refine ats_no rfl trivial ?_
          refine ats_skip ?_
          (repeat refine ats_seq ?_); refine ats_go (fix0 hcx) fun K hK => ?_; simp only [go_sem, seval]; refine hK _ ?_; clear hK K
          (repeat refine ats_seq ?_); refine ats_loop (fun i : Nat => ⟨[(1, .bptr 0 0), (3, .int t.length), (4, .int i)], [(0, .bx [.l2 s, .l1 t])]⟩) (fun i => i ≤ t.length ∧ ∀ b, b < i → (s.getD b []).length = t.length ∧ numsB (s.getD b []) = true) (fun i => t.length - i) 0 ⟨Nat.zero_le _, fun a h => absurd h (Nat.not_lt_zero a)⟩ (by refine And.intro ?_ rfl; simp only [SlotsLe, St.get, slotGet, Nat.reduceEqDiff, ↓reduceIte, AV.int.injEq, AV.bool.injEq, AV.l1.injEq, AV.l2.injEq, AV.l3.injEq, true_and, and_true]; rfl) (fun i hi => ?_); obtain ⟨hi, Hi⟩ := hi
          (repeat refine ats_seq ?_); refine ats_go (fix0 hcx) fun K hK => ?_; simp only [go_sem, seval]; refine hK _ ?_; clear hK K
          (repeat refine ats_seq ?_); first | refine ats_ifn (p := _) rfl trivial (fun hli => ?_) (fun hli => ?_) | refine ats_ifp (p := _) rfl trivial (fun hli => ?_) (fun hli => ?_) | refine ats_cond rfl trivial (fun hli => ?_) (fun hli => ?_)
          · refine ats_skip ?_
            (repeat refine ats_seq ?_); refine ats_block ?_
            by_cases h4 : (s.getD i []).length = t.length
            · have h4' : ((s.getD i []).length : Int) = t.length := by omega
              have hk := l01Numbers_ok (s.getD i [])
              cases hM : numsB (s.getD i []) with
              | false =>
                rw [hM] at hk
                (repeat refine ats_seq ?_); refine ats_go (fix0 hcx) fun K hK => ?_; simp only [go_sem, seval]
                (repeat refine And.intro (by first | omega | (intro hq; first | omega | (simp at hq <;> omega) | (simp_all <;> omega))) ?_)
                simp only [h4', decide_true, decide_false, Bool.not_true, Bool.not_false]
                simp only [go_sem, seval]
                (repeat refine And.intro (by first | omega | (intro hq; first | omega | (simp at hq <;> omega) | (simp_all <;> omega))) ?_)
                first | refine YR_intro (fun _ => acall_free rfl rfl (hk)) ?_ | refine YR_intro (acall_free rfl rfl (hk)) ?_
                simp only [go_sem, seval]
                refine hK _ ?_; clear hK K
                (repeat refine ats_seq ?_); refine ats_yes rfl trivial ?_
                (repeat refine ats_seq ?_); refine ats_go (fix0 hcx) fun K hK => ?_; simp only [go_sem, seval]; refine hK _ ?_; clear hK K
                refine ats_ret (finB rfl ?_)
                refine (bd_false (fun h => ?_)).symm
                have := numsB_iff.2 (fun j hj => (h.2.2.1.2 i (by omega)).2 j (by omega))
                rw [hM] at this
                cases this
              | true =>
                rw [hM] at hk
                (repeat refine ats_seq ?_); refine ats_go (fix0 hcx) fun K hK => ?_; simp only [go_sem, seval]
                (repeat refine And.intro (by first | omega | (intro hq; first | omega | (simp at hq <;> omega) | (simp_all <;> omega))) ?_)
                simp only [h4', decide_true, decide_false, Bool.not_true, Bool.not_false]
                simp only [go_sem, seval]
                (repeat refine And.intro (by first | omega | (intro hq; first | omega | (simp at hq <;> omega) | (simp_all <;> omega))) ?_)
                first | refine YR_intro (fun _ => acall_free rfl rfl (hk)) ?_ | refine YR_intro (acall_free rfl rfl (hk)) ?_
                simp only [go_sem, seval]
                refine hK _ ?_; clear hK K
                (repeat refine ats_seq ?_); refine ats_no rfl trivial ?_
                refine ats_skip ?_
                (repeat refine ats_seq ?_); refine ats_go (fix0 hcx) fun K hK => ?_; simp only [go_sem, seval]; (repeat refine And.intro (by first | omega | (intro hq; first | omega | (simp at hq <;> omega) | (simp_all <;> omega))) ?_); refine hK _ ?_; clear hK K
                refine ⟨i + 1, ⟨by omega, fun a ha => by rcases Nat.lt_succ_iff_lt_or_eq.1 ha with h | rfl; exact Hi a h; exact ⟨h4, hM⟩⟩, by omega, .inl ⟨?_, rfl⟩⟩; simp only [SlotsLe, St.get, slotGet, Nat.reduceEqDiff, ↓reduceIte, AV.int.injEq, AV.bool.injEq, AV.l1.injEq, AV.l2.injEq, AV.l3.injEq, true_and, and_true]; omega
            · have h4' : ¬ ((s.getD i []).length : Int) = t.length := by omega
              (repeat refine ats_seq ?_); refine ats_go (fix0 hcx) fun K hK => ?_; simp only [go_sem, seval]
              (repeat refine And.intro (by first | omega | (intro hq; first | omega | (simp at hq <;> omega) | (simp_all <;> omega))) ?_)
              simp only [h4', decide_true, decide_false, Bool.not_true, Bool.not_false]
              simp only [go_sem, seval]
              refine YR_intro (v := .bool false) (by first | trivial | (intro h; cases h)) ?_
              simp only [go_sem, seval]
              refine hK _ ?_; clear hK K
              (repeat refine ats_seq ?_); refine ats_yes rfl trivial ?_
              (repeat refine ats_seq ?_); refine ats_go (fix0 hcx) fun K hK => ?_; simp only [go_sem, seval]; refine hK _ ?_; clear hK K
              refine ats_ret (finB rfl ?_)
              exact (bd_false (fun h => h4 (h.2.2.1.2 i (by omega)).1)).symm
          · refine ats_exit (lq_x ?_)
            (repeat refine ats_seq ?_); refine ats_go (fix0 hcx) fun K hK => ?_; simp only [go_sem, seval]; refine hK _ ?_; clear hK K
            refine ats_ret (finB rfl ?_)
            exact (bd_true ⟨by omega, by omega, ⟨h3, fun i hi => ⟨(Hi i (by omega)).1, fun j hj => numsB_iff.1 (Hi i (by omega)).2 j (by rw [(Hi i (by omega)).1]; exact hj)⟩⟩, numsB_iff.1 hN⟩).symm
      · have h3' : ¬ (s.length : Int) = t.length := by omega
        (repeat refine ats_seq ?_); refine ats_go (fix0 hcx) fun K hK => ?_; simp only [go_sem, seval]
        simp only [h1', h2', h3', decide_true, decide_false, Bool.not_true, Bool.not_false]
        simp only [go_sem, seval]
        refine YR_intro (v := .bool false) (by first | trivial | (intro h; cases h)) ?_
        simp only [go_sem, seval]
        refine hK _ ?_; clear hK K
        (repeat refine ats_seq ?_); refine ats_yes rfl trivial ?_
        (repeat refine ats_seq ?_); refine ats_go (fix0 hcx) fun K hK => ?_; simp only [go_sem, seval]; refine hK _ ?_; clear hK K
        refine ats_ret (finB rfl ?_)
        exact (bd_false (fun h => h3 h.2.2.1.1)).symm
end Go.Proofs.YtakhnoenhmpfpaaGreat
