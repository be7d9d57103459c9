import Derived.Test.YtaijdhkjemffhaaHf
set_option linter.unusedSimpArgs false
set_option linter.unusedVariables false
namespace Go.Proofs.Ytaijdhkjemffhaa
open Go Go.Aw Go.Pl
theorem l17Is_ok (o : List Int) (m : Int) (w : List (List (List Int))) : PureCall Try.prog 18 [.agg [.l1 o, .int m, .l3 w]] (.bool (isCoc o m w)) := by
  have hS := l17Shape_ok o m w
  unfold isCoc
  by_cases h : CocS o m w
  · have hN := l17Normal_ok o m w h
    have hF := l17Fault_ok o m w h
    rw [bd_true h] at hS
    by_cases hn : NormW w
    · rw [bd_true hn] at hN
      cases hf : cfF o m w with
      | none =>
        have e : bd (CocOk o m w) = true := bd_true ⟨h, hn, hf⟩
        rw [hf] at hF
        simp only [optA] at hF
        refine PureCall.intro (n := 15) (rs := [.tmp 2]) Try.call18 Try.func18 rfl rfl rfl (by simp only [List.length_cons, List.length_nil]; omega) (fun cx hcx => ats_of ?_); simp only [argSlots, Nat.zero_add, Nat.reduceAdd]
        (repeat refine ats_seq ?_); refine ats_go (fix0 hcx) fun K hK => ?_; simp only [go_sem, seval]; refine hK _ ?_; clear hK K
        (repeat refine ats_seq ?_); refine ats_go (fix0 hcx) fun K hK => ?_; simp only [go_sem, seval]
        first | refine fcall_data (hS) rfl ?_ | refine YR_intro (acall_data (hS) rfl) ?_
        simp only [go_sem, seval]
        (repeat refine And.intro (by first | omega | (intro hq; first | omega | (simp at hq <;> omega) | (simp_all <;> omega))) ?_)
        first | refine fcall_data (hN) rfl ?_ | refine YR_intro (acall_data (hN) rfl) ?_
        simp only [go_sem, seval]
        (repeat refine And.intro (by first | omega | (intro hq; first | omega | (simp at hq <;> omega) | (simp_all <;> omega))) ?_)
        first | refine fcall_data (hF) rfl ?_ | refine YR_intro (acall_data (hF) rfl) ?_
        simp only [go_sem, seval]
        (repeat refine And.intro (by first | omega | (intro hq; first | omega | (simp at hq <;> omega) | (simp_all <;> omega))) ?_)
        refine hK _ ?_; clear hK K
        refine ats_ret (finB rfl ?_)
        rw [e]; rfl
      | some v =>
        have e : bd (CocOk o m w) = false := bd_false (fun h => by have := h.2.2; rw [hf] at this; cases this)
        have hl : (v.length : Int) ≠ 0 := by
          have hv := hf
          unfold cfF at hv
          have : v.length = 4 := first_all (P := fun v => v.length = 4) hv fun x u hx => first_all (P := fun v => v.length = 4) hx fun y u hy => first_all (P := fun v => v.length = 4) hy fun z u hz => first_all (P := fun v => v.length = 4) hz fun t u ht => by
            unfold cfG at ht
            split at ht <;> cases ht
            rfl
          omega
        rw [hf] at hF
        simp only [optA] at hF
        refine PureCall.intro (n := 15) (rs := [.tmp 2]) Try.call18 Try.func18 rfl rfl rfl (by simp only [List.length_cons, List.length_nil]; omega) (fun cx hcx => ats_of ?_); simp only [argSlots, Nat.zero_add, Nat.reduceAdd]
        (repeat refine ats_seq ?_); refine ats_go (fix0 hcx) fun K hK => ?_; simp only [go_sem, seval]; refine hK _ ?_; clear hK K
        (repeat refine ats_seq ?_); refine ats_go (fix0 hcx) fun K hK => ?_; simp only [go_sem, seval]
        first | refine fcall_data (hS) rfl ?_ | refine YR_intro (acall_data (hS) rfl) ?_
        simp only [go_sem, seval]
        (repeat refine And.intro (by first | omega | (intro hq; first | omega | (simp at hq <;> omega) | (simp_all <;> omega))) ?_)
        first | refine fcall_data (hN) rfl ?_ | refine YR_intro (acall_data (hN) rfl) ?_
        simp only [go_sem, seval]
        (repeat refine And.intro (by first | omega | (intro hq; first | omega | (simp at hq <;> omega) | (simp_all <;> omega))) ?_)
        first | refine fcall_data (hF) rfl ?_ | refine YR_intro (acall_data (hF) rfl) ?_
        simp only [go_sem, seval]
        (repeat refine And.intro (by first | omega | (intro hq; first | omega | (simp at hq <;> omega) | (simp_all <;> omega))) ?_)
        refine hK _ ?_; clear hK K
        refine ats_ret (finB rfl ?_)
        rw [e]
        simpa using hl
    · rw [bd_false hn] at hN
      have e : bd (CocOk o m w) = false := bd_false (fun h => hn h.2.1)
      refine PureCall.intro (n := 15) (rs := [.tmp 2]) Try.call18 Try.func18 rfl rfl rfl (by simp only [List.length_cons, List.length_nil]; omega) (fun cx hcx => ats_of ?_); simp only [argSlots, Nat.zero_add, Nat.reduceAdd]
      (repeat refine ats_seq ?_); refine ats_go (fix0 hcx) fun K hK => ?_; simp only [go_sem, seval]; refine hK _ ?_; clear hK K
      (repeat refine ats_seq ?_); refine ats_go (fix0 hcx) fun K hK => ?_; simp only [go_sem, seval]
      first | refine fcall_data (hS) rfl ?_ | refine YR_intro (acall_data (hS) rfl) ?_
      simp only [go_sem, seval]
      (repeat refine And.intro (by first | omega | (intro hq; first | omega | (simp at hq <;> omega) | (simp_all <;> omega))) ?_)
      first | refine fcall_data (hN) rfl ?_ | refine YR_intro (acall_data (hN) rfl) ?_
      simp only [go_sem, seval]
      (repeat refine And.intro (by first | omega | (intro hq; first | omega | (simp at hq <;> omega) | (simp_all <;> omega))) ?_)
      refine YR_intro (v := .nil) (by first | trivial | (intro h; cases h)) ?_
      simp only [go_sem, seval]
      refine hK _ ?_; clear hK K
      refine ats_ret (finB rfl ?_)
      rw [e]
  · rw [bd_false h] at hS
    have e : bd (CocOk o m w) = false := bd_false (fun h' => h h'.1)
    refine PureCall.intro (n := 15) (rs := [.tmp 2]) Try.call18 Try.func18 rfl rfl rfl (by simp only [List.length_cons, List.length_nil]; omega) (fun cx hcx => ats_of ?_); simp only [argSlots, Nat.zero_add, Nat.reduceAdd]
    (repeat refine ats_seq ?_); refine ats_go (fix0 hcx) fun K hK => ?_; simp only [go_sem, seval]; refine hK _ ?_; clear hK K
    (repeat refine ats_seq ?_); refine ats_go (fix0 hcx) fun K hK => ?_; simp only [go_sem, seval]
    first | refine fcall_data (hS) rfl ?_ | refine YR_intro (acall_data (hS) rfl) ?_
    simp only [go_sem, seval]
    (repeat refine And.intro (by first | omega | (intro hq; first | omega | (simp at hq <;> omega) | (simp_all <;> omega))) ?_)
    refine YR_intro (v := .bool false) (by first | trivial | (intro h; cases h)) ?_
    simp only [go_sem, seval]
    refine YR_intro (v := .nil) (by first | trivial | (intro h; cases h)) ?_
    simp only [go_sem, seval]
    refine hK _ ?_; clear hK K
    refine ats_ret (finB rfl ?_)
    rw [e]
theorem IsCocycle_ok (o : List Int) (m : Int) (w : List (List (List Int))) : PureCall Try.prog 23 [.agg [.l1 o, .int m, .l3 w]] (.bool (isCoc o m w)) := by
  have hS := isCochain_ok o m w
  unfold isCoc
  by_cases h : CocS o m w
  · have hN := isNormalised_ok o m w h
    have hF := cfault_ok o m w h
    rw [bd_true h] at hS
    by_cases hn : NormW w
    · rw [bd_true hn] at hN
      cases hf : cfF o m w with
      | none =>
        have e : bd (CocOk o m w) = true := bd_true ⟨h, hn, hf⟩
        rw [hf] at hF
        simp only [optA] at hF
        refine PureCall.intro (n := 14) (rs := [.tmp 2]) Try.call23 Try.func23 rfl rfl rfl (by simp only [List.length_cons, List.length_nil]; omega) (fun cx hcx => ats_of ?_); simp only [argSlots, Nat.zero_add, Nat.reduceAdd]
        (repeat refine ats_seq ?_); refine ats_go (fix0 hcx) fun K hK => ?_; simp only [go_sem, seval]; refine hK _ ?_; clear hK K
        (repeat refine ats_seq ?_); refine ats_go (fix0 hcx) fun K hK => ?_; simp only [go_sem, seval]
        first | refine fcall_data (hS) rfl ?_ | refine YR_intro (acall_data (hS) rfl) ?_
        simp only [go_sem, seval]
        (repeat refine And.intro (by first | omega | (intro hq; first | omega | (simp at hq <;> omega) | (simp_all <;> omega))) ?_)
        first | refine fcall_data (hN) rfl ?_ | refine YR_intro (acall_data (hN) rfl) ?_
        simp only [go_sem, seval]
        (repeat refine And.intro (by first | omega | (intro hq; first | omega | (simp at hq <;> omega) | (simp_all <;> omega))) ?_)
        first | refine fcall_data (hF) rfl ?_ | refine YR_intro (acall_data (hF) rfl) ?_
        simp only [go_sem, seval]
        (repeat refine And.intro (by first | omega | (intro hq; first | omega | (simp at hq <;> omega) | (simp_all <;> omega))) ?_)
        refine hK _ ?_; clear hK K
        refine ats_ret (finB rfl ?_)
        rw [e]
      | some v =>
        have e : bd (CocOk o m w) = false := bd_false (fun h => by have := h.2.2; rw [hf] at this; cases this)
        have hl : 0 < v.length := by
          have hv := hf
          unfold cfF at hv
          have : v.length = 4 := first_all (P := fun v => v.length = 4) hv fun x u hx => first_all (P := fun v => v.length = 4) hx fun y u hy => first_all (P := fun v => v.length = 4) hy fun z u hz => first_all (P := fun v => v.length = 4) hz fun t u ht => by
            unfold cfG at ht
            split at ht <;> cases ht
            rfl
          omega
        rw [hf] at hF
        simp only [optA] at hF
        refine PureCall.intro (n := 14) (rs := [.tmp 2]) Try.call23 Try.func23 rfl rfl rfl (by simp only [List.length_cons, List.length_nil]; omega) (fun cx hcx => ats_of ?_); simp only [argSlots, Nat.zero_add, Nat.reduceAdd]
        (repeat refine ats_seq ?_); refine ats_go (fix0 hcx) fun K hK => ?_; simp only [go_sem, seval]; refine hK _ ?_; clear hK K
        (repeat refine ats_seq ?_); refine ats_go (fix0 hcx) fun K hK => ?_; simp only [go_sem, seval]
        first | refine fcall_data (hS) rfl ?_ | refine YR_intro (acall_data (hS) rfl) ?_
        simp only [go_sem, seval]
        (repeat refine And.intro (by first | omega | (intro hq; first | omega | (simp at hq <;> omega) | (simp_all <;> omega))) ?_)
        first | refine fcall_data (hN) rfl ?_ | refine YR_intro (acall_data (hN) rfl) ?_
        simp only [go_sem, seval]
        (repeat refine And.intro (by first | omega | (intro hq; first | omega | (simp at hq <;> omega) | (simp_all <;> omega))) ?_)
        first | refine fcall_data (hF) rfl ?_ | refine YR_intro (acall_data (hF) rfl) ?_
        simp only [go_sem, seval]
        (repeat refine And.intro (by first | omega | (intro hq; first | omega | (simp at hq <;> omega) | (simp_all <;> omega))) ?_)
        refine hK _ ?_; clear hK K
        refine ats_ret (finB rfl ?_)
        rw [e]
    · rw [bd_false hn] at hN
      have e : bd (CocOk o m w) = false := bd_false (fun h => hn h.2.1)
      refine PureCall.intro (n := 14) (rs := [.tmp 2]) Try.call23 Try.func23 rfl rfl rfl (by simp only [List.length_cons, List.length_nil]; omega) (fun cx hcx => ats_of ?_); simp only [argSlots, Nat.zero_add, Nat.reduceAdd]
      (repeat refine ats_seq ?_); refine ats_go (fix0 hcx) fun K hK => ?_; simp only [go_sem, seval]; refine hK _ ?_; clear hK K
      (repeat refine ats_seq ?_); refine ats_go (fix0 hcx) fun K hK => ?_; simp only [go_sem, seval]
      first | refine fcall_data (hS) rfl ?_ | refine YR_intro (acall_data (hS) rfl) ?_
      simp only [go_sem, seval]
      (repeat refine And.intro (by first | omega | (intro hq; first | omega | (simp at hq <;> omega) | (simp_all <;> omega))) ?_)
      first | refine fcall_data (hN) rfl ?_ | refine YR_intro (acall_data (hN) rfl) ?_
      simp only [go_sem, seval]
      (repeat refine And.intro (by first | omega | (intro hq; first | omega | (simp at hq <;> omega) | (simp_all <;> omega))) ?_)
      refine YR_intro (v := .nil) (by first | trivial | (intro h; cases h)) ?_
      simp only [go_sem, seval]
      refine hK _ ?_; clear hK K
      refine ats_ret (finB rfl ?_)
      rw [e]
  · rw [bd_false h] at hS
    have e : bd (CocOk o m w) = false := bd_false (fun h' => h h'.1)
    refine PureCall.intro (n := 14) (rs := [.tmp 2]) Try.call23 Try.func23 rfl rfl rfl (by simp only [List.length_cons, List.length_nil]; omega) (fun cx hcx => ats_of ?_); simp only [argSlots, Nat.zero_add, Nat.reduceAdd]
    (repeat refine ats_seq ?_); refine ats_go (fix0 hcx) fun K hK => ?_; simp only [go_sem, seval]; refine hK _ ?_; clear hK K
    (repeat refine ats_seq ?_); refine ats_go (fix0 hcx) fun K hK => ?_; simp only [go_sem, seval]
    first | refine fcall_data (hS) rfl ?_ | refine YR_intro (acall_data (hS) rfl) ?_
    simp only [go_sem, seval]
    (repeat refine And.intro (by first | omega | (intro hq; first | omega | (simp at hq <;> omega) | (simp_all <;> omega))) ?_)
    refine YR_intro (v := .bool false) (by first | trivial | (intro h; cases h)) ?_
    simp only [go_sem, seval]
    refine YR_intro (v := .nil) (by first | trivial | (intro h; cases h)) ?_
    simp only [go_sem, seval]
    refine hK _ ?_; clear hK K
    refine ats_ret (finB rfl ?_)
    rw [e]
set_option maxHeartbeats 2000000 in
theorem l17Pairing_ok (n : Nat) (m : Int) (c : List (List Int)) (h8 : n ≤ 8) (m1 : 1 ≤ m) (m2 : m ≤ 1000) : PureCall Try.prog 85 [.int n, .int m, .l2 c] (.bool (bd (PairB n m c))) := by
  refine PureCall.intro (n := 59) (rs := [.tmp 6]) Try.call85 Try.func85 rfl rfl rfl (by simp only [List.length_cons, List.length_nil]; omega) (fun cx hcx => ats_of ?_); simp only [argSlots, Nat.zero_add, Nat.reduceAdd]
  (repeat refine ats_seq ?_); refine ats_go (fix0 hcx) fun K hK => ?_; simp only [go_sem, seval]; (repeat refine And.intro (by first | omega | (intro hq; first | omega | (simp at hq <;> omega) | (simp_all <;> omega))) ?_); refine hK _ ?_; clear hK K
  (repeat refine ats_seq ?_); refine ats_go (fix0 hcx) fun K hK => ?_; simp only [go_sem, seval]; (repeat refine And.intro (by first | omega | (intro hq; first | omega | (simp at hq <;> omega) | (simp_all <;> omega))) ?_); refine hK _ ?_; clear hK K
  (repeat refine ats_seq ?_); first | refine ats_ifn (p := _) rfl trivial (fun h1 => ?_) (fun h1 => ?_) | refine ats_ifp (p := _) rfl trivial (fun h1 => ?_) (fun h1 => ?_) | refine ats_cond rfl trivial (fun h1 => ?_) (fun h1 => ?_)
  · (repeat refine ats_seq ?_); refine ats_go (fix0 hcx) fun K hK => ?_; simp only [go_sem, seval]; (repeat refine And.intro (by first | omega | (intro hq; first | omega | (simp at hq <;> omega) | (simp_all <;> omega))) ?_); refine hK _ ?_; clear hK K
    refine ats_ret (finB rfl ?_)
    exact (bd_false (fun h => by have := h.1.1; omega)).symm
  · have lc : c.length = n := by omega
    refine ats_skip ?_
    (repeat refine ats_seq ?_); refine ats_go (fix0 hcx) fun K hK => ?_; simp only [go_sem, seval]; (repeat refine And.intro (by first | omega | (intro hq; first | omega | (simp at hq <;> omega) | (simp_all <;> omega))) ?_); refine hK _ ?_; clear hK K
    (repeat refine ats_seq ?_); refine ats_loop (fun i : Nat => ⟨[(0, .int n), (1, .int m), (2, .l2 c), (7, .int i)], []⟩) (fun i => i ≤ n ∧ ∀ b, b < i → RowB n m (c.getD b []) ∧ ∀ y, y < n → b = 0 ∨ y = 0 → e2 c b y = 0) (fun i => n - i) 0 ⟨Nat.zero_le _, fun a h => absurd h (Nat.not_lt_zero a)⟩ (by refine And.intro ?_ rfl; simp only [SlotsLe, St.get, slotGet, Nat.reduceEqDiff, ↓reduceIte, AV.int.injEq, AV.bool.injEq, AV.l1.injEq, AV.l2.injEq, AV.l3.injEq, true_and, and_true]; rfl) (fun i hi => ?_); obtain ⟨hi, Hi⟩ := hi
    (repeat refine ats_seq ?_); refine ats_go (fix0 hcx) fun K hK => ?_; simp only [go_sem, seval]; (repeat refine And.intro (by first | omega | (intro hq; first | omega | (simp at hq <;> omega) | (simp_all <;> omega))) ?_); refine hK _ ?_; clear hK K
    (repeat refine ats_seq ?_); first | refine ats_ifn (p := _) rfl trivial (fun h2 => ?_) (fun h2 => ?_) | refine ats_ifp (p := _) rfl trivial (fun h2 => ?_) (fun h2 => ?_) | refine ats_cond rfl trivial (fun h2 => ?_) (fun h2 => ?_)
    · refine ats_skip ?_
      (repeat refine ats_seq ?_); refine ats_block ?_
      (repeat refine ats_seq ?_); refine ats_go (fix0 hcx) fun K hK => ?_; simp only [go_sem, seval]; (repeat refine And.intro (by first | omega | (intro hq; first | omega | (simp at hq <;> omega) | (simp_all <;> omega))) ?_); refine hK _ ?_; clear hK K
      (repeat refine ats_seq ?_); first | refine ats_ifn (p := _) rfl trivial (fun h3 => ?_) (fun h3 => ?_) | refine ats_ifp (p := _) rfl trivial (fun h3 => ?_) (fun h3 => ?_) | refine ats_cond rfl trivial (fun h3 => ?_) (fun h3 => ?_)
      · (repeat refine ats_seq ?_); refine ats_go (fix0 hcx) fun K hK => ?_; simp only [go_sem, seval]; (repeat refine And.intro (by first | omega | (intro hq; first | omega | (simp at hq <;> omega) | (simp_all <;> omega))) ?_); refine hK _ ?_; clear hK K
        refine ats_ret (finB rfl ?_)
        exact (bd_false (fun h => by have := (h.1.2 i (by omega)).1; omega)).symm
      · refine ats_skip ?_
        (repeat refine ats_seq ?_); refine ats_go (fix0 hcx) fun K hK => ?_; simp only [go_sem, seval]; (repeat refine And.intro (by first | omega | (intro hq; first | omega | (simp at hq <;> omega) | (simp_all <;> omega))) ?_); refine hK _ ?_; clear hK K
        (repeat refine ats_seq ?_); refine ats_loop (fun j : Nat => ⟨[(0, .int n), (1, .int m), (2, .l2 c), (7, .int i), (8, .int j)], []⟩) (fun j => j ≤ n ∧ ∀ b, b < j → (0 ≤ e2 c i b ∧ e2 c i b ≤ m - 1) ∧ (i = 0 ∨ b = 0 → e2 c i b = 0)) (fun j => n - j) 0 ⟨Nat.zero_le _, fun a h => absurd h (Nat.not_lt_zero a)⟩ (by refine And.intro ?_ rfl; simp only [SlotsLe, St.get, slotGet, Nat.reduceEqDiff, ↓reduceIte, AV.int.injEq, AV.bool.injEq, AV.l1.injEq, AV.l2.injEq, AV.l3.injEq, true_and, and_true]; rfl) (fun j hj => ?_); obtain ⟨hj, Hj⟩ := hj
        (repeat refine ats_seq ?_); refine ats_go (fix0 hcx) fun K hK => ?_; simp only [go_sem, seval]; (repeat refine And.intro (by first | omega | (intro hq; first | omega | (simp at hq <;> omega) | (simp_all <;> omega))) ?_); refine hK _ ?_; clear hK K
        (repeat refine ats_seq ?_); first | refine ats_ifn (p := _) rfl trivial (fun h4 => ?_) (fun h4 => ?_) | refine ats_ifp (p := _) rfl trivial (fun h4 => ?_) (fun h4 => ?_) | refine ats_cond rfl trivial (fun h4 => ?_) (fun h4 => ?_)
        · refine ats_skip ?_
          (repeat refine ats_seq ?_); refine ats_block ?_
          (repeat refine ats_seq ?_); refine ats_go (fix0 hcx) fun K hK => ?_; simp only [go_sem, seval]
          (repeat refine And.intro (by first | omega | (intro hq; first | omega | (simp at hq <;> omega) | (simp_all <;> omega))) ?_)
          first | refine fcall_data (l01In_ok ((c.getD i []).getD j 0) 0 (m - 1)) rfl ?_ | refine YR_intro (acall_data (l01In_ok ((c.getD i []).getD j 0) 0 (m - 1)) rfl) ?_
          simp only [go_sem, seval]
          (repeat refine And.intro (by first | omega | (intro hq; first | omega | (simp at hq <;> omega) | (simp_all <;> omega))) ?_)
          refine hK _ ?_; clear hK K
          (repeat refine ats_seq ?_); first | refine ats_ifn (p := _) rfl trivial (fun h5 => ?_) (fun h5 => ?_) | refine ats_ifp (p := _) rfl trivial (fun h5 => ?_) (fun h5 => ?_) | refine ats_cond rfl trivial (fun h5 => ?_) (fun h5 => ?_)
          · (repeat refine ats_seq ?_); refine ats_go (fix0 hcx) fun K hK => ?_; simp only [go_sem, seval]; (repeat refine And.intro (by first | omega | (intro hq; first | omega | (simp at hq <;> omega) | (simp_all <;> omega))) ?_); refine hK _ ?_; clear hK K
            refine ats_ret (finB rfl ?_)
            refine (bd_false (fun h => ?_)).symm
            have a1 := h.1.bd (j := i) (k := j) (by omega) (by omega)
            have a2 := h.2 i (by omega)
            have a3 := h.2 j (by omega)
            simp only [e2] at a1 a2 a3
            simp [-List.getD_eq_getElem?_getD] at h5
            rcases h5 with h5 | ⟨rfl | rfl, h5⟩
            · omega
            · exact h5 a3.1
            · exact h5 a2.2
          · have hb : (0 ≤ e2 c i j ∧ e2 c i j ≤ m - 1) ∧ (i = 0 ∨ j = 0 → e2 c i j = 0) := by
              simp [-List.getD_eq_getElem?_getD] at h5
              simp only [e2]
              exact ⟨h5.1, fun h => h5.2 (by omega)⟩
            refine ats_skip ?_
            (repeat refine ats_seq ?_); refine ats_go (fix0 hcx) fun K hK => ?_; simp only [go_sem, seval]; (repeat refine And.intro (by first | omega | (intro hq; first | omega | (simp at hq <;> omega) | (simp_all <;> omega))) ?_); refine hK _ ?_; clear hK K
            refine ⟨j + 1, ⟨by omega, fun a ha => by rcases Nat.lt_succ_iff_lt_or_eq.1 ha with h | rfl; exact Hj a h; exact hb⟩, by omega, .inl ⟨?_, rfl⟩⟩; simp only [SlotsLe, St.get, slotGet, Nat.reduceEqDiff, ↓reduceIte, AV.int.injEq, AV.bool.injEq, AV.l1.injEq, AV.l2.injEq, AV.l3.injEq, true_and, and_true]; omega
        · refine ats_exit (lq_x (ats_nil (bq_n ?_)))
          (repeat refine ats_seq ?_); refine ats_go (fix0 hcx) fun K hK => ?_; simp only [go_sem, seval]; (repeat refine And.intro (by first | omega | (intro hq; first | omega | (simp at hq <;> omega) | (simp_all <;> omega))) ?_); refine hK _ ?_; clear hK K
          refine ⟨i + 1, ⟨by omega, fun a ha => by rcases Nat.lt_succ_iff_lt_or_eq.1 ha with h | rfl; exact Hi a h; exact ⟨⟨by omega, fun k hk => (Hj k (by omega)).1⟩, fun y hy => (Hj y (by omega)).2⟩⟩, by omega, .inl ⟨?_, rfl⟩⟩; simp only [SlotsLe, St.get, slotGet, Nat.reduceEqDiff, ↓reduceIte, AV.int.injEq, AV.bool.injEq, AV.l1.injEq, AV.l2.injEq, AV.l3.injEq, true_and, and_true]; omega
    · refine ats_exit (lq_x ?_)
      (repeat refine ats_seq ?_); refine ats_go (fix0 hcx) fun K hK => ?_; simp only [go_sem, seval]; (repeat refine And.intro (by first | omega | (intro hq; first | omega | (simp at hq <;> omega) | (simp_all <;> omega))) ?_); refine hK _ ?_; clear hK K
      refine ats_ret (finB rfl ?_)
      exact (bd_true ⟨⟨lc, fun i hi => (Hi i (by omega)).1⟩, fun x hx => ⟨(Hi 0 (by omega)).2 x hx (.inl rfl), (Hi x (by omega)).2 0 (by omega) (.inr rfl)⟩⟩).symm
theorem l18Numbers_ok (n : Nat) (m : Int) (c : List (List Int)) (h8 : n ≤ 8) (m1 : 1 ≤ m) (m2 : m ≤ 1000) : PureCall Try.prog 65 [.int n, .int m, .l2 c] (.bool (bd (PairB n m c))) := by
  refine PureCall.intro (n := 11) (rs := [.tmp 6]) Try.call65 Try.func65 rfl rfl rfl (by simp only [List.length_cons, List.length_nil]; omega) (fun cx hcx => ats_of ?_); simp only [argSlots, Nat.zero_add, Nat.reduceAdd]
  (repeat refine ats_seq ?_); refine ats_go (fix0 hcx) fun K hK => ?_; simp only [go_sem, seval]; refine hK _ ?_; clear hK K
  (repeat refine ats_seq ?_); refine ats_go (fix0 hcx) fun K hK => ?_; simp only [go_sem, seval]
  first | refine fcall_data (l17Pairing_ok n m c h8 m1 m2) rfl ?_ | refine YR_intro (acall_data (l17Pairing_ok n m c h8 m1 m2) rfl) ?_
  simp only [go_sem, seval]
  (repeat refine And.intro (by first | omega | (intro hq; first | omega | (simp at hq <;> omega) | (simp_all <;> omega))) ?_)
  refine hK _ ?_; clear hK K
  refine ats_ret (finB rfl ?_)
  rfl
theorem isPairing_ok (n : Nat) (m : Int) (c : List (List Int)) (h8 : n ≤ 8) (m1 : 1 ≤ m) (m2 : m ≤ 1000) : PureCall Try.prog 52 [.l2 c, .int n, .int m] (.bool (bd (PairB n m c))) := by
  have hg := isGrid_ok c n m m1 m2
  cases eg : gridB n m c with
  | false =>
    rw [eg] at hg
    have e : bd (PairB n m c) = false := bd_false (fun h => by rw [gridB_iff.2 h.1] at eg; cases eg)
    refine PureCall.intro (n := 35) (rs := [.tmp 6]) Try.call52 Try.func52 rfl rfl rfl (by simp only [List.length_cons, List.length_nil]; omega) (fun cx hcx => ats_of ?_); simp only [argSlots, Nat.zero_add, Nat.reduceAdd]
    (repeat refine ats_seq ?_); refine ats_go (fix0 hcx) fun K hK => ?_; simp only [go_sem, seval]; refine hK _ ?_; clear hK K
    (repeat refine ats_seq ?_); refine ats_go (fix0 hcx) fun K hK => ?_; simp only [go_sem, seval]
    first | refine fcall_data (hg) rfl ?_ | refine YR_intro (acall_data (hg) rfl) ?_
    simp only [go_sem, seval]
    (repeat refine And.intro (by first | omega | (intro hq; first | omega | (simp at hq <;> omega) | (simp_all <;> omega))) ?_)
    refine hK _ ?_; clear hK K
    (repeat refine ats_seq ?_); refine ats_yes rfl trivial ?_
    (repeat refine ats_seq ?_); refine ats_go (fix0 hcx) fun K hK => ?_; simp only [go_sem, seval]; refine hK _ ?_; clear hK K
    refine ats_ret (finB rfl ?_)
    rw [e]
  | true =>
    rw [eg] at hg
    have hb := gridB_iff.1 eg
    have lc := hb.1
    refine PureCall.intro (n := 35) (rs := [.tmp 6]) Try.call52 Try.func52 rfl rfl rfl (by simp only [List.length_cons, List.length_nil]; omega) (fun cx hcx => ats_of ?_); simp only [argSlots, Nat.zero_add, Nat.reduceAdd]
    (repeat refine ats_seq ?_); refine ats_go (fix0 hcx) fun K hK => ?_; simp only [go_sem, seval]; refine hK _ ?_; clear hK K
    (repeat refine ats_seq ?_); refine ats_go (fix0 hcx) fun K hK => ?_; simp only [go_sem, seval]
    first | refine fcall_data (hg) rfl ?_ | refine YR_intro (acall_data (hg) rfl) ?_
    simp only [go_sem, seval]
    (repeat refine And.intro (by first | omega | (intro hq; first | omega | (simp at hq <;> omega) | (simp_all <;> omega))) ?_)
    refine hK _ ?_; clear hK K
    (repeat refine ats_seq ?_); refine ats_no rfl trivial ?_
    refine ats_skip ?_
    (repeat refine ats_seq ?_); refine ats_go (fix0 hcx) fun K hK => ?_; simp only [go_sem, seval]; (repeat refine And.intro (by first | omega | (intro hq; first | omega | (simp at hq <;> omega) | (simp_all <;> omega))) ?_); refine hK _ ?_; clear hK K
    rw [lc]
    (repeat refine ats_seq ?_); refine ats_loop (fun i : Nat => ⟨[(0, .l2 c), (14, .int n), (15, .int i)], []⟩) (fun i => i ≤ n ∧ ∀ b, b < i → e2 c 0 b = 0 ∧ e2 c b 0 = 0) (fun i => n - i) 0 ⟨Nat.zero_le _, fun a h => absurd h (Nat.not_lt_zero a)⟩ (by refine And.intro ?_ rfl; simp only [SlotsLe, St.get, slotGet, Nat.reduceEqDiff, ↓reduceIte, AV.int.injEq, AV.bool.injEq, AV.l1.injEq, AV.l2.injEq, AV.l3.injEq, true_and, and_true]; rfl) (fun i hi => ?_); obtain ⟨hi, Hi⟩ := hi
    (repeat refine ats_seq ?_); refine ats_go (fix0 hcx) fun K hK => ?_; simp only [go_sem, seval]; (repeat refine And.intro (by first | omega | (intro hq; first | omega | (simp at hq <;> omega) | (simp_all <;> omega))) ?_); refine hK _ ?_; clear hK K
    (repeat refine ats_seq ?_); first | refine ats_ifn (p := _) rfl trivial (fun h2 => ?_) (fun h2 => ?_) | refine ats_ifp (p := _) rfl trivial (fun h2 => ?_) (fun h2 => ?_) | refine ats_cond rfl trivial (fun h2 => ?_) (fun h2 => ?_)
    · have r0 := hb.row (show 0 < n by omega)
      have ri := hb.row (show i < n by omega)
      refine ats_skip ?_
      (repeat refine ats_seq ?_); refine ats_block ?_
      (repeat refine ats_seq ?_); refine ats_go (fix0 hcx) fun K hK => ?_; simp only [go_sem, seval]; (repeat refine And.intro (by first | omega | (intro hq; first | omega | (simp at hq <;> omega) | (simp_all <;> omega))) ?_); refine hK _ ?_; clear hK K
      (repeat refine ats_seq ?_); refine ats_go (fix0 hcx) fun K hK => ?_; simp only [go_sem, seval]; (repeat refine And.intro (by first | omega | (intro hq; first | omega | (simp at hq <;> omega) | (simp_all <;> omega))) ?_); refine hK _ ?_; clear hK K
      (repeat refine ats_seq ?_); first | refine ats_ifn (p := _) rfl trivial (fun h3 => ?_) (fun h3 => ?_) | refine ats_ifp (p := _) rfl trivial (fun h3 => ?_) (fun h3 => ?_) | refine ats_cond rfl trivial (fun h3 => ?_) (fun h3 => ?_)
      · (repeat refine ats_seq ?_); refine ats_go (fix0 hcx) fun K hK => ?_; simp only [go_sem, seval]; (repeat refine And.intro (by first | omega | (intro hq; first | omega | (simp at hq <;> omega) | (simp_all <;> omega))) ?_); refine hK _ ?_; clear hK K
        refine ats_ret (finB rfl ?_)
        refine (bd_false (fun h => ?_)).symm
        have a1 := h.2 i (by omega)
        simp only [e2] at a1
        simp [-List.getD_eq_getElem?_getD, a1.1, a1.2] at h3
      · have hb : e2 c 0 i = 0 ∧ e2 c i 0 = 0 := by
          simp [-List.getD_eq_getElem?_getD] at h3
          exact h3
        refine ats_skip ?_
        (repeat refine ats_seq ?_); refine ats_go (fix0 hcx) fun K hK => ?_; simp only [go_sem, seval]; (repeat refine And.intro (by first | omega | (intro hq; first | omega | (simp at hq <;> omega) | (simp_all <;> omega))) ?_); refine hK _ ?_; clear hK K
        refine ⟨i + 1, ⟨by omega, fun a ha => by rcases Nat.lt_succ_iff_lt_or_eq.1 ha with h | rfl; exact Hi a h; exact hb⟩, by omega, .inl ⟨?_, rfl⟩⟩; simp only [SlotsLe, St.get, slotGet, Nat.reduceEqDiff, ↓reduceIte, AV.int.injEq, AV.bool.injEq, AV.l1.injEq, AV.l2.injEq, AV.l3.injEq, true_and, and_true]; omega
    · refine ats_exit (lq_x ?_)
      (repeat refine ats_seq ?_); refine ats_go (fix0 hcx) fun K hK => ?_; simp only [go_sem, seval]; (repeat refine And.intro (by first | omega | (intro hq; first | omega | (simp at hq <;> omega) | (simp_all <;> omega))) ?_); refine hK _ ?_; clear hK K
      refine ats_ret (finB rfl ?_)
      exact (bd_true ⟨hb, fun x hx => Hi x (by omega)⟩).symm
end Go.Proofs.Ytaijdhkjemffhaa
