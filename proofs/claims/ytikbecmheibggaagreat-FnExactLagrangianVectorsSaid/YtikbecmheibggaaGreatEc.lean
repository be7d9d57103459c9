import Derived.Test.YtikbecmheibggaaGreatEa
set_option linter.unusedSimpArgs false
set_option linter.unusedVariables false
namespace Go.Proofs.YtikbecmheibggaaGreat
open Go Go.Aw Go.Pl
theorem l14Sum_ok (s : List (List Int)) (t v : List Int) (hs : Shape s t) (hv : v.length = t.length) (pv : ∀ i, i < t.length → InP (v.getD i 0)) : PureCall Tryz.prog 81 [.agg [.l2 s, .l1 t], .l1 v] (.int (dotP (s.getD 0 []) v t.length)) := by
  have h16 := hs.2.1
  have h1 := hs.1
  have hm := hs.2.2.1
  have ls := hm.1
  have hd := l01Dot_ok (s.getD 0 []) v t.length (by omega) (hm.row (by omega)) hv (fun i hi => hm.inP (by omega) hi) pv
  refine PureCall.intro (n := 11) (rs := [.tmp 4]) Tryz.call81 Tryz.func81 rfl rfl rfl (by simp only [List.length_cons, List.length_nil]; omega) (fun cx hcx => ats_of ?_); simp only [argSlots, Nat.zero_add, Nat.reduceAdd]
  (repeat refine ats_seq ?_); refine ats_go (by first | exact fix0 hcx | exact fix1 hcx rfl) fun K hK => ?_; simp only [go_sem, seval]; refine hK _ ?_; clear hK K
  (repeat refine ats_seq ?_); refine ats_go (by first | exact fix0 hcx | exact fix1 hcx rfl) fun K hK => ?_; simp only [go_sem, seval]
  (repeat refine And.intro (by first | omega | (intro hq; first | omega | (simp at hq <;> omega) | (simp_all <;> omega))) ?_)
  first | refine fcall_data (hd) rfl ?_ | refine YR_intro (acall_data (hd) rfl) ?_
  simp only [go_sem, seval]
  refine hK _ ?_; clear hK K
  refine ats_ret (finI rfl ?_)
  rfl
theorem l14Lagrangian_ok (s : List (List Int)) (t v : List Int) (hs : Shape s t) : PureCall Tryz.prog 52 [.agg [.l2 s, .l1 t], .l1 v] (.bool (bd (LagP s t v))) := by
  have h16 := hs.2.1
  have h1 := hs.1
  have hm := hs.2.2.1
  have ls := hm.1
  refine PureCall.intro (n := 78) (rs := [.tmp 4]) Tryz.call52 Tryz.func52 rfl rfl rfl (by simp only [List.length_cons, List.length_nil]; omega) (fun cx hcx => ats_of ?_); simp only [argSlots, Nat.zero_add, Nat.reduceAdd]
  (repeat refine ats_seq ?_); refine ats_go (by first | exact fix0 hcx | exact fix1 hcx rfl) fun K hK => ?_; simp only [go_sem, seval]; refine hK _ ?_; clear hK K
  (repeat refine ats_seq ?_); refine ats_go (by first | exact fix0 hcx | exact fix1 hcx rfl) fun K hK => ?_; simp only [go_sem, seval]; (repeat refine And.intro (by first | omega | (intro hq; first | omega | (simp at hq <;> omega) | (simp_all <;> omega))) ?_); refine hK _ ?_; clear hK K
  (repeat refine ats_seq ?_); first | refine ats_ifn (p := _) rfl trivial (fun hc1 => ?_) (fun hc1 => ?_) | refine ats_ifp (p := _) rfl trivial (fun hc1 => ?_) (fun hc1 => ?_) | refine ats_cond rfl trivial (fun hc1 => ?_) (fun hc1 => ?_)
  · simp only [Bool.or_eq_true, Bool.not_eq_true', decide_eq_false_iff_not] at hc1
    (repeat refine ats_seq ?_); refine ats_go (by first | exact fix0 hcx | exact fix1 hcx rfl) fun K hK => ?_; simp only [go_sem, seval]; refine hK _ ?_; clear hK K
    refine ats_ret (finB rfl ?_)
    refine (bd_false (fun h => ?_)).symm
    rcases hc1 with h2 | h2
    · exact h2 (by rw [h.1])
    · exact h2 h.2.1
  · simp only [Bool.or_eq_false_iff, Bool.not_eq_false', decide_eq_true_eq] at hc1
    have hv : v.length = t.length := by omega
    refine ats_skip ?_
    (repeat refine ats_seq ?_); refine ats_go (by first | exact fix0 hcx | exact fix1 hcx rfl) fun K hK => ?_; simp only [go_sem, seval]; refine hK _ ?_; clear hK K
    (repeat refine ats_seq ?_); refine ats_loop (fun i : Nat => ⟨[(1, .l1 v), (2, .bptr 0 0), (5, .int i)], [(0, .bx [.l2 s, .l1 t])]⟩) (fun i => i ≤ v.length ∧ ∀ b, b < i → ((0 ≤ v.getD b 0 ∧ v.getD b 0 ≤ 1000) ∧ (v.getD b 0 ≠ 0 → t.getD b 0 = 1))) (fun i => v.length - i) 0 ⟨Nat.zero_le _, fun a h => absurd h (Nat.not_lt_zero a)⟩ (by refine And.intro ?_ rfl; simp only [SlotsLe, St.get, slotGet, Nat.reduceEqDiff, ↓reduceIte, AV.int.injEq, AV.bool.injEq, AV.l1.injEq, AV.l2.injEq, AV.l3.injEq, true_and, and_true]; rfl) (fun i hi => ?_); obtain ⟨hi, Hi⟩ := hi
    (repeat refine ats_seq ?_); refine ats_go (by first | exact fix0 hcx | exact fix1 hcx rfl) fun K hK => ?_; simp only [go_sem, seval]; refine hK _ ?_; clear hK K
    (repeat refine ats_seq ?_); first | refine ats_ifn (p := _) rfl trivial (fun hc3 => ?_) (fun hc3 => ?_) | refine ats_ifp (p := _) rfl trivial (fun hc3 => ?_) (fun hc3 => ?_) | refine ats_cond rfl trivial (fun hc3 => ?_) (fun hc3 => ?_)
    · refine ats_skip ?_
      (repeat refine ats_seq ?_); refine ats_block ?_
      (repeat refine ats_seq ?_); refine ats_go (by first | exact fix0 hcx | exact fix1 hcx rfl) fun K hK => ?_; simp only [go_sem, seval]
      (repeat refine And.intro (by first | omega | (intro hq; first | omega | (simp at hq <;> omega) | (simp_all <;> omega))) ?_)
      first | refine fcall_data (l01In_ok _ _ _) rfl ?_ | refine YR_intro (acall_data (l01In_ok _ _ _) rfl) ?_
      simp only [go_sem, seval]
      (repeat refine And.intro (by first | omega | (intro hq; first | omega | (simp at hq <;> omega) | (simp_all <;> omega))) ?_)
      refine hK _ ?_; clear hK K
      (repeat refine ats_seq ?_); first | refine ats_ifn (p := _) rfl trivial (fun hc4 => ?_) (fun hc4 => ?_) | refine ats_ifp (p := _) rfl trivial (fun hc4 => ?_) (fun hc4 => ?_) | refine ats_cond rfl trivial (fun hc4 => ?_) (fun hc4 => ?_)
      · (repeat refine ats_seq ?_); refine ats_go (by first | exact fix0 hcx | exact fix1 hcx rfl) fun K hK => ?_; simp only [go_sem, seval]; refine hK _ ?_; clear hK K
        refine ats_ret (finB rfl ?_)
        refine (bd_false (fun h => ?_)).symm
        obtain ⟨g1, g2⟩ := h.2.2.1 i (by omega)
        simp only [Bool.or_eq_true, Bool.and_eq_true, Bool.not_eq_true', Bool.and_eq_false_iff, decide_eq_false_iff_not] at hc4
        rcases hc4 with h2 | h2
        · omega
        · exact h2.2 (g2 h2.1)
      · simp only [Bool.or_eq_false_iff, Bool.and_eq_true, Bool.not_eq_false', Bool.and_eq_false_iff, decide_eq_true_eq] at hc4
        refine ats_skip ?_
        (repeat refine ats_seq ?_); refine ats_go (by first | exact fix0 hcx | exact fix1 hcx rfl) fun K hK => ?_; simp only [go_sem, seval]; (repeat refine And.intro (by first | omega | (intro hq; first | omega | (simp at hq <;> omega) | (simp_all <;> omega))) ?_); refine hK _ ?_; clear hK K
        refine ⟨i + 1, ⟨by omega, fun a ha => by rcases Nat.lt_succ_iff_lt_or_eq.1 ha with h | rfl; exact Hi a h; exact ⟨hc4.1, fun h => hc4.2.resolve_left h⟩⟩, by omega, .inl ⟨?_, rfl⟩⟩; simp only [SlotsLe, St.get, slotGet, Nat.reduceEqDiff, ↓reduceIte, AV.int.injEq, AV.bool.injEq, AV.l1.injEq, AV.l2.injEq, AV.l3.injEq, true_and, and_true]; omega
    · have hv2 : ∀ i, i < t.length → (0 ≤ v.getD i 0 ∧ v.getD i 0 ≤ 1000) ∧ (v.getD i 0 ≠ 0 → t.getD i 0 = 1) := fun j hj => Hi j (by omega)
      have pv : ∀ i, i < t.length → InP (v.getD i 0) := fun j hj => by have := (hv2 j hj).1; unfold InP; omega
      clear Hi
      have pL := dotP_InP (s.getD 0 []) v t.length
      refine ats_exit (lq_x ?_)
      (repeat refine ats_seq ?_); refine ats_go (by first | exact fix0 hcx | exact fix1 hcx rfl) fun K hK => ?_; simp only [go_sem, seval]
      first | refine fcall_data (l14Sum_ok s t v hs hv pv) rfl ?_ | refine YR_intro (acall_data (l14Sum_ok s t v hs hv pv) rfl) ?_
      simp only [go_sem, seval]
      refine hK _ ?_; clear hK K
      (repeat refine ats_seq ?_); refine ats_go (by first | exact fix0 hcx | exact fix1 hcx rfl) fun K hK => ?_; simp only [go_sem, seval]; refine hK _ ?_; clear hK K
      (repeat refine ats_seq ?_); refine ats_loop (fun i : Nat => ⟨[(1, .l1 v), (2, .bptr 0 0), (6, .int (dotP (s.getD 0 []) v t.length)), (7, .int i)], [(0, .bx [.l2 s, .l1 t])]⟩) (fun i => i ≤ v.length ∧ ∀ b, b < i → (dotP (s.getD b []) v t.length = dotP (s.getD 0 []) v t.length * v.getD b 0 % 55441)) (fun i => v.length - i) 0 ⟨Nat.zero_le _, fun a h => absurd h (Nat.not_lt_zero a)⟩ (by refine And.intro ?_ rfl; simp only [SlotsLe, St.get, slotGet, Nat.reduceEqDiff, ↓reduceIte, AV.int.injEq, AV.bool.injEq, AV.l1.injEq, AV.l2.injEq, AV.l3.injEq, true_and, and_true]; rfl) (fun i hi => ?_); obtain ⟨hi, Hi⟩ := hi
      (repeat refine ats_seq ?_); refine ats_go (by first | exact fix0 hcx | exact fix1 hcx rfl) fun K hK => ?_; simp only [go_sem, seval]; refine hK _ ?_; clear hK K
      (repeat refine ats_seq ?_); first | refine ats_ifn (p := _) rfl trivial (fun hc6 => ?_) (fun hc6 => ?_) | refine ats_ifp (p := _) rfl trivial (fun hc6 => ?_) (fun hc6 => ?_) | refine ats_cond rfl trivial (fun hc6 => ?_) (fun hc6 => ?_)
      · have hd := l01Dot_ok (s.getD i []) v t.length (by omega) (hm.row (by omega)) hv (fun j hj => hm.inP (by omega) hj) pv
        have mm := mulP pL (pv i (by omega))
        refine ats_skip ?_
        (repeat refine ats_seq ?_); refine ats_block ?_
        (repeat refine ats_seq ?_); refine ats_pick (fix0 hcx) mixed (by kernel_rfl) fun K hK => ?_; simp only [go_sem, seval]
        (repeat refine And.intro (by first | omega | (intro hq; first | omega | (simp at hq <;> omega) | (simp_all <;> omega))) ?_)
        first | refine fcall_data (hd) rfl ?_ | refine YR_intro (acall_data (hd) rfl) ?_
        simp only [go_sem, seval]
        try simp (disch := omega) only [tmP, tdP]
        (repeat refine And.intro (by first | omega | (intro hq; first | omega | (simp at hq <;> omega) | (simp_all <;> omega))) ?_)
        refine hK _ ?_; clear hK K
        (repeat refine ats_seq ?_); first | refine ats_ifn (p := _) rfl trivial (fun hc7 => ?_) (fun hc7 => ?_) | refine ats_ifp (p := _) rfl trivial (fun hc7 => ?_) (fun hc7 => ?_) | refine ats_cond rfl trivial (fun hc7 => ?_) (fun hc7 => ?_)
        · (repeat refine ats_seq ?_); refine ats_go (by first | exact fix0 hcx | exact fix1 hcx rfl) fun K hK => ?_; simp only [go_sem, seval]; refine hK _ ?_; clear hK K
          refine ats_ret (finB rfl ?_)
          refine (bd_false (fun h => ?_)).symm
          exact hc7 (h.2.2.2.1 i (by omega))
        · refine ats_skip ?_
          (repeat refine ats_seq ?_); refine ats_go (by first | exact fix0 hcx | exact fix1 hcx rfl) fun K hK => ?_; simp only [go_sem, seval]; (repeat refine And.intro (by first | omega | (intro hq; first | omega | (simp at hq <;> omega) | (simp_all <;> omega))) ?_); refine hK _ ?_; clear hK K
          refine ⟨i + 1, ⟨by omega, fun a ha => by rcases Nat.lt_succ_iff_lt_or_eq.1 ha with h | rfl; exact Hi a h; exact hc7⟩, by omega, .inl ⟨?_, rfl⟩⟩; simp only [SlotsLe, St.get, slotGet, Nat.reduceEqDiff, ↓reduceIte, AV.int.injEq, AV.bool.injEq, AV.l1.injEq, AV.l2.injEq, AV.l3.injEq, true_and, and_true]; omega
      · have hv3 : ∀ i, i < t.length → dotP (s.getD i []) v t.length = dotP (s.getD 0 []) v t.length * v.getD i 0 % 55441 := fun j hj => Hi j (by omega)
        clear Hi
        have mm := mulP pL pL
        refine ats_exit (lq_x ?_)
        (repeat refine ats_seq ?_); refine ats_go (by first | exact fix0 hcx | exact fix1 hcx rfl) fun K hK => ?_; simp only [go_sem, seval]
        try simp (disch := omega) only [tmP, tdP]
        (repeat refine And.intro (by first | omega | (intro hq; first | omega | (simp at hq <;> omega) | (simp_all <;> omega))) ?_)
        first | refine fcall_data (l12Whole_ok s t hs) rfl ?_ | refine YR_intro (acall_data (l12Whole_ok s t hs) rfl) ?_
        simp only [go_sem, seval]
        refine hK _ ?_; clear hK K
        refine ats_ret (finB rfl ?_)
        by_cases hz : dotP (s.getD 0 []) v t.length * dotP (s.getD 0 []) v t.length % 55441 = wholeD s t.length
        · rw [decide_eq_true hz]; exact (bd_true ⟨hv, hc1.2, hv2, hv3, hz⟩).symm
        · rw [decide_eq_false hz]; exact (bd_false (fun h => hz h.2.2.2.2)).symm
theorem isLagrangian_ok (s : List (List Int)) (t v : List Int) (hs : Shape s t) : PureCall Tryz.prog 37 [.agg [.l2 s, .l1 t], .l1 v] (.bool (bd (LagP s t v))) := by
  have h16 := hs.2.1
  have h1 := hs.1
  have hm := hs.2.2.1
  have ls := hm.1
  have r0 := hm.row (show 0 < t.length by omega)
  have hA := allWithin_ok v 0 1000
  refine PureCall.intro (n := 78) (rs := [.tmp 4]) Tryz.call37 Tryz.func37 rfl rfl rfl (by simp only [List.length_cons, List.length_nil]; omega) (fun cx hcx => ats_of ?_); simp only [argSlots, Nat.zero_add, Nat.reduceAdd]
  (repeat refine ats_seq ?_); refine ats_go (by first | exact fix0 hcx | exact fix1 hcx rfl) fun K hK => ?_; simp only [go_sem, seval]; refine hK _ ?_; clear hK K
  (repeat refine ats_seq ?_); refine ats_go (by first | exact fix0 hcx | exact fix1 hcx rfl) fun K hK => ?_; simp only [go_sem, seval]
  first | refine YR_intro (fun _ => acall_free rfl rfl (hA)) ?_ | refine YR_intro (acall_free rfl rfl (hA)) ?_
  simp only [go_sem, seval]
  (repeat refine And.intro (by first | omega | (intro hq; first | omega | (simp at hq <;> omega) | (simp_all <;> omega))) ?_)
  refine hK _ ?_; clear hK K
  (repeat refine ats_seq ?_); first | refine ats_ifn (p := _) rfl trivial (fun hc1 => ?_) (fun hc1 => ?_) | refine ats_ifp (p := _) rfl trivial (fun hc1 => ?_) (fun hc1 => ?_) | refine ats_cond rfl trivial (fun hc1 => ?_) (fun hc1 => ?_)
  · (repeat refine ats_seq ?_); refine ats_go (by first | exact fix0 hcx | exact fix1 hcx rfl) fun K hK => ?_; simp only [go_sem, seval]; refine hK _ ?_; clear hK K
    refine ats_ret (finB rfl ?_)
    refine (bd_false (fun h => ?_)).symm
    have hr : rngB 0 1000 v = true := rngB_iff.2 (fun i hi => (h.2.2.1 i (by rw [← h.1]; exact hi)).1)
    unfold rngB at hr
    rw [hr, decide_eq_true (show (v.length : Int) = t.length by rw [h.1]), decide_eq_true h.2.1] at hc1
    cases hc1
  · simp only [Bool.or_eq_false_iff, Bool.not_eq_false', decide_eq_true_eq] at hc1
    have hv : v.length = t.length := by omega
    have hR := rngB_iff.1 (show rngB 0 1000 v = true from hc1.1.2)
    have pv : ∀ i, i < t.length → InP (v.getD i 0) := fun j hj => by have := hR j (by omega); unfold InP; omega
    have pL := dotP_InP (s.getD 0 []) v t.length
    refine ats_skip ?_
    (repeat refine ats_seq ?_); refine ats_go (by first | exact fix0 hcx | exact fix1 hcx rfl) fun K hK => ?_; simp only [go_sem, seval]; refine hK _ ?_; clear hK K
    (repeat refine ats_seq ?_); refine ats_loop (fun i : Nat => ⟨[(1, .l1 v), (2, .bptr 0 0), (27, .l1 v), (28, .int v.length), (29, .int i)], [(0, .bx [.l2 s, .l1 t])]⟩) (fun i => i ≤ v.length ∧ ∀ b, b < i → (v.getD b 0 ≠ 0 → t.getD b 0 = 1)) (fun i => v.length - i) 0 ⟨Nat.zero_le _, fun a h => absurd h (Nat.not_lt_zero a)⟩ (by refine And.intro ?_ rfl; simp only [SlotsLe, St.get, slotGet, Nat.reduceEqDiff, ↓reduceIte, AV.int.injEq, AV.bool.injEq, AV.l1.injEq, AV.l2.injEq, AV.l3.injEq, true_and, and_true]; rfl) (fun i hi => ?_); obtain ⟨hi, Hi⟩ := hi
    (repeat refine ats_seq ?_); refine ats_go (by first | exact fix0 hcx | exact fix1 hcx rfl) fun K hK => ?_; simp only [go_sem, seval]; refine hK _ ?_; clear hK K
    (repeat refine ats_seq ?_); first | refine ats_ifn (p := _) rfl trivial (fun hc3 => ?_) (fun hc3 => ?_) | refine ats_ifp (p := _) rfl trivial (fun hc3 => ?_) (fun hc3 => ?_) | refine ats_cond rfl trivial (fun hc3 => ?_) (fun hc3 => ?_)
    · refine ats_skip ?_
      (repeat refine ats_seq ?_); refine ats_block ?_
      (repeat refine ats_seq ?_); refine ats_go (by first | exact fix0 hcx | exact fix1 hcx rfl) fun K hK => ?_; simp only [go_sem, seval]; (repeat refine And.intro (by first | omega | (intro hq; first | omega | (simp at hq <;> omega) | (simp_all <;> omega))) ?_); refine hK _ ?_; clear hK K
      (repeat refine ats_seq ?_); refine ats_go (by first | exact fix0 hcx | exact fix1 hcx rfl) fun K hK => ?_; simp only [go_sem, seval]; (repeat refine And.intro (by first | omega | (intro hq; first | omega | (simp at hq <;> omega) | (simp_all <;> omega))) ?_); refine hK _ ?_; clear hK K
      (repeat refine ats_seq ?_); first | refine ats_ifn (p := _) rfl trivial (fun hc4 => ?_) (fun hc4 => ?_) | refine ats_ifp (p := _) rfl trivial (fun hc4 => ?_) (fun hc4 => ?_) | refine ats_cond rfl trivial (fun hc4 => ?_) (fun hc4 => ?_)
      · (repeat refine ats_seq ?_); refine ats_go (by first | exact fix0 hcx | exact fix1 hcx rfl) fun K hK => ?_; simp only [go_sem, seval]; refine hK _ ?_; clear hK K
        refine ats_ret (finB rfl ?_)
        refine (bd_false (fun h => ?_)).symm
        simp only [Bool.and_eq_true, Bool.not_eq_true', decide_eq_false_iff_not] at hc4
        exact hc4.2 ((h.2.2.1 i (by omega)).2 hc4.1)
      · simp only [Bool.and_eq_false_iff, Bool.not_eq_false', decide_eq_true_eq] at hc4
        refine ats_skip ?_
        (repeat refine ats_seq ?_); refine ats_go (by first | exact fix0 hcx | exact fix1 hcx rfl) fun K hK => ?_; simp only [go_sem, seval]; (repeat refine And.intro (by first | omega | (intro hq; first | omega | (simp at hq <;> omega) | (simp_all <;> omega))) ?_); refine hK _ ?_; clear hK K
        refine ⟨i + 1, ⟨by omega, fun a ha => by rcases Nat.lt_succ_iff_lt_or_eq.1 ha with h | rfl; exact Hi a h; exact (fun h => hc4.resolve_left h)⟩, by omega, .inl ⟨?_, rfl⟩⟩; simp only [SlotsLe, St.get, slotGet, Nat.reduceEqDiff, ↓reduceIte, AV.int.injEq, AV.bool.injEq, AV.l1.injEq, AV.l2.injEq, AV.l3.injEq, true_and, and_true]; omega
    · have hv2 : ∀ i, i < t.length → (0 ≤ v.getD i 0 ∧ v.getD i 0 ≤ 1000) ∧ (v.getD i 0 ≠ 0 → t.getD i 0 = 1) := fun j hj => ⟨hR j (by omega), Hi j (by omega)⟩
      clear Hi
      have hd0 := dot_ok v (s.getD 0 []) t.length (by omega) hv r0 pv (fun i hi => hm.inP (by omega) hi)
      rw [dotP_comm] at hd0
      refine ats_exit (lq_x ?_)
      (repeat refine ats_seq ?_); refine ats_go (by first | exact fix0 hcx | exact fix1 hcx rfl) fun K hK => ?_; simp only [go_sem, seval]
      simp only [ls]
      (repeat refine And.intro (by first | omega | (intro hq; first | omega | (simp at hq <;> omega) | (simp_all <;> omega))) ?_)
      first | refine fcall_data (hd0) rfl ?_ | refine YR_intro (acall_data (hd0) rfl) ?_
      simp only [go_sem, seval]
      refine hK _ ?_; clear hK K
      (repeat refine ats_seq ?_); refine ats_go (by first | exact fix0 hcx | exact fix1 hcx rfl) fun K hK => ?_; simp only [go_sem, seval]
      simp only [ls]
      refine hK _ ?_; clear hK K
      (repeat refine ats_seq ?_); refine ats_loop (fun i : Nat => ⟨[(1, .l1 v), (2, .bptr 0 0), (7, .int (dotP (s.getD 0 []) v t.length)), (52, .l2 s), (53, .int t.length), (54, .int i)], [(0, .bx [.l2 s, .l1 t])]⟩) (fun i => i ≤ t.length ∧ ∀ b, b < i → (dotP (s.getD b []) v t.length = dotP (s.getD 0 []) v t.length * v.getD b 0 % 55441)) (fun i => t.length - i) 0 ⟨Nat.zero_le _, fun a h => absurd h (Nat.not_lt_zero a)⟩ (by refine And.intro ?_ rfl; simp only [SlotsLe, St.get, slotGet, Nat.reduceEqDiff, ↓reduceIte, AV.int.injEq, AV.bool.injEq, AV.l1.injEq, AV.l2.injEq, AV.l3.injEq, true_and, and_true]; rfl) (fun i hi => ?_); obtain ⟨hi, Hi⟩ := hi
      (repeat refine ats_seq ?_); refine ats_go (by first | exact fix0 hcx | exact fix1 hcx rfl) fun K hK => ?_; simp only [go_sem, seval]; refine hK _ ?_; clear hK K
      (repeat refine ats_seq ?_); first | refine ats_ifn (p := _) rfl trivial (fun hc6 => ?_) (fun hc6 => ?_) | refine ats_ifp (p := _) rfl trivial (fun hc6 => ?_) (fun hc6 => ?_) | refine ats_cond rfl trivial (fun hc6 => ?_) (fun hc6 => ?_)
      · have hd := dot_ok (s.getD i []) v t.length (by omega) (hm.row (by omega)) hv (fun j hj => hm.inP (by omega) hj) pv
        have mm := mulP pL (pv i (by omega))
        refine ats_skip ?_
        (repeat refine ats_seq ?_); refine ats_block ?_
        (repeat refine ats_seq ?_); refine ats_go (by first | exact fix0 hcx | exact fix1 hcx rfl) fun K hK => ?_; simp only [go_sem, seval]
        simp only [ls]
        (repeat refine And.intro (by first | omega | (intro hq; first | omega | (simp at hq <;> omega) | (simp_all <;> omega))) ?_)
        refine hK _ ?_; clear hK K
        (repeat refine ats_seq ?_); refine ats_pick (fix0 hcx) mixed (by kernel_rfl) fun K hK => ?_; simp only [go_sem, seval]
        first | refine fcall_data (hd) rfl ?_ | refine YR_intro (acall_data (hd) rfl) ?_
        simp only [go_sem, seval]
        try simp (disch := omega) only [tmP, tdP]
        (repeat refine And.intro (by first | omega | (intro hq; first | omega | (simp at hq <;> omega) | (simp_all <;> omega))) ?_)
        refine hK _ ?_; clear hK K
        (repeat refine ats_seq ?_); first | refine ats_ifn (p := _) rfl trivial (fun hc7 => ?_) (fun hc7 => ?_) | refine ats_ifp (p := _) rfl trivial (fun hc7 => ?_) (fun hc7 => ?_) | refine ats_cond rfl trivial (fun hc7 => ?_) (fun hc7 => ?_)
        · (repeat refine ats_seq ?_); refine ats_go (by first | exact fix0 hcx | exact fix1 hcx rfl) fun K hK => ?_; simp only [go_sem, seval]; refine hK _ ?_; clear hK K
          refine ats_ret (finB rfl ?_)
          refine (bd_false (fun h => ?_)).symm
          exact hc7 (h.2.2.2.1 i (by omega))
        · refine ats_skip ?_
          (repeat refine ats_seq ?_); refine ats_go (by first | exact fix0 hcx | exact fix1 hcx rfl) fun K hK => ?_; simp only [go_sem, seval]; (repeat refine And.intro (by first | omega | (intro hq; first | omega | (simp at hq <;> omega) | (simp_all <;> omega))) ?_); refine hK _ ?_; clear hK K
          refine ⟨i + 1, ⟨by omega, fun a ha => by rcases Nat.lt_succ_iff_lt_or_eq.1 ha with h | rfl; exact Hi a h; exact hc7⟩, by omega, .inl ⟨?_, rfl⟩⟩; simp only [SlotsLe, St.get, slotGet, Nat.reduceEqDiff, ↓reduceIte, AV.int.injEq, AV.bool.injEq, AV.l1.injEq, AV.l2.injEq, AV.l3.injEq, true_and, and_true]; omega
      · have hv3 : ∀ i, i < t.length → dotP (s.getD i []) v t.length = dotP (s.getD 0 []) v t.length * v.getD i 0 % 55441 := fun j hj => Hi j (by omega)
        clear Hi
        have mm := mulP pL pL
        refine ats_exit (lq_x ?_)
        (repeat refine ats_seq ?_); refine ats_go (by first | exact fix0 hcx | exact fix1 hcx rfl) fun K hK => ?_; simp only [go_sem, seval]
        try simp (disch := omega) only [tmP, tdP]
        (repeat refine And.intro (by first | omega | (intro hq; first | omega | (simp at hq <;> omega) | (simp_all <;> omega))) ?_)
        first | refine fcall_data (dwhole_ok s t hs) rfl ?_ | refine YR_intro (acall_data (dwhole_ok s t hs) rfl) ?_
        simp only [go_sem, seval]
        refine hK _ ?_; clear hK K
        refine ats_ret (finB rfl ?_)
        by_cases hz : dotP (s.getD 0 []) v t.length * dotP (s.getD 0 []) v t.length % 55441 = wholeD s t.length
        · rw [decide_eq_true hz]; exact (bd_true ⟨hv, hc1.2, hv2, hv3, hz⟩).symm
        · rw [decide_eq_false hz]; exact (bd_false (fun h => hz h.2.2.2.2)).symm
end Go.Proofs.YtikbecmheibggaaGreat
