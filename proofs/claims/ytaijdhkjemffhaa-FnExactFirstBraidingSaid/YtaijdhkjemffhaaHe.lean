import Derived.Test.YtaijdhkjemffhaaHx1
set_option linter.unusedSimpArgs false
set_option linter.unusedVariables false
namespace Go.Proofs.Ytaijdhkjemffhaa
open Go Go.Aw Go.Pl
theorem any_not {α : Type} {p : α → Bool} {xs : List α} (d : α) : xs.any p = false ↔ ∀ i, i < xs.length → p (xs.getD i d) = false := by
  rw [List.any_eq_false]
  constructor
  · intro h i hi
    have := h (xs.getD i d) (by rw [List.getD_eq_getElem?_getD, List.getElem?_eq_getElem hi]; exact List.getElem_mem hi)
    simpa using this
  · intro h x hx
    obtain ⟨i, hi, rfl⟩ := List.getElem_of_mem hx
    have := h i hi
    rw [List.getD_eq_getElem?_getD, List.getElem?_eq_getElem hi] at this
    simpa using this
def rowB (n m : Int) (r : List Int) : Bool := decide ((r.length : Int) = n) && !(r.any fun x => !(decide (0 ≤ x) && decide (x ≤ m - 1)))
def gridB (n m : Int) (g : List (List Int)) : Bool := decide ((g.length : Int) = n) && !(g.any fun r => !rowB n m r)
theorem rowB_iff {n : Nat} {m : Int} {r : List Int} : rowB n m r = true ↔ RowB n m r := by
  unfold rowB RowB
  rw [Bool.and_eq_true, decide_eq_true_eq, Bool.not_eq_true', any_not 0]
  constructor
  · rintro ⟨h1, h2⟩
    refine ⟨by omega, fun k hk => ?_⟩
    have := h2 k (by omega)
    simpa using this
  · rintro ⟨h1, h2⟩
    refine ⟨by omega, fun k hk => ?_⟩
    have := h2 k (by omega)
    simpa using this
theorem gridB_iff {n : Nat} {m : Int} {g : List (List Int)} : gridB n m g = true ↔ GridB n m g := by
  unfold gridB GridB
  rw [Bool.and_eq_true, decide_eq_true_eq, Bool.not_eq_true', any_not []]
  constructor
  · rintro ⟨h1, h2⟩
    refine ⟨by omega, fun k hk => ?_⟩
    have := h2 k (by omega)
    exact rowB_iff.1 (by simpa using this)
  · rintro ⟨h1, h2⟩
    refine ⟨by omega, fun k hk => ?_⟩
    have := rowB_iff.2 (h2 k (by omega))
    simpa using this
theorem isGrid1_ok (r : List Int) (n m : Int) (h1 : 1 ≤ m) (h2 : m ≤ 1000) : PureCall Try.prog 90 [.l1 r, .cptr [.int n] 0, .cptr [.int m] 0] (.bool (!rowB n m r)) := by
  have e : decide ((r.length : Int) ≠ n) = !decide ((r.length : Int) = n) := by by_cases h : (r.length : Int) = n <;> simp [h]
  refine PureCall.intro (n := 16) (rs := [.tmp 4]) Try.call90 Try.func90 rfl rfl rfl (by simp only [List.length_cons, List.length_nil]; omega) (fun cx hcx => ats_of ?_); simp only [argSlots, Nat.zero_add, Nat.reduceAdd]
  (repeat refine ats_seq ?_); refine ats_go (fix0 hcx) fun K hK => ?_; simp only [go_sem, seval]; (repeat refine And.intro (by first | omega | (intro hq; first | omega | (simp at hq <;> omega) | (simp_all <;> omega))) ?_); refine hK _ ?_; clear hK K
  (repeat refine ats_seq ?_); refine ats_go (fix0 hcx) fun K hK => ?_; simp only [go_sem, seval]
  (repeat refine And.intro (by first | omega | (intro hq; first | omega | (simp at hq <;> omega) | (simp_all <;> omega))) ?_)
  first | refine YR_intro (fun _ => acall_data (allWithin_ok r 0 (m - 1)) rfl) ?_ | refine YR_intro (acall_data (allWithin_ok r 0 (m - 1)) rfl) ?_
  simp only [go_sem, seval]
  (repeat refine And.intro (by first | omega | (intro hq; first | omega | (simp at hq <;> omega) | (simp_all <;> omega))) ?_)
  refine hK _ ?_; clear hK K
  refine ats_ret (finB rfl ?_)
  unfold rowB
  by_cases h : (r.length : Int) = n <;> simp [h]
theorem isGrid_ok (g : List (List Int)) (n m : Int) (h1 : 1 ≤ m) (h2 : m ≤ 1000) : PureCall Try.prog 72 [.l2 g, .int n, .int m] (.bool (gridB n m g)) := by
  have hc := containsF2_ok g 90 [.cptr [.int n] 0, .cptr [.int m] 0] (fun r => !rowB n m r) rfl (fun r => isGrid1_ok r n m h1 h2)
  refine PureCall.intro (n := 17) (rs := [.tmp 6]) Try.call72 Try.func72 rfl rfl rfl (by simp only [List.length_cons, List.length_nil]; omega) (fun cx hcx => ats_of ?_); simp only [argSlots, Nat.zero_add, Nat.reduceAdd]
  (repeat refine ats_seq ?_); refine ats_go (fix0 hcx) fun K hK => ?_; simp only [go_sem, seval]; (repeat refine And.intro (by first | omega | (intro hq; first | omega | (simp at hq <;> omega) | (simp_all <;> omega))) ?_); refine hK _ ?_; clear hK K
  (repeat refine ats_seq ?_); refine ats_go (fix0 hcx) fun K hK => ?_; simp only [go_sem, seval]
  (repeat refine And.intro (by first | omega | (intro hq; first | omega | (simp at hq <;> omega) | (simp_all <;> omega))) ?_)
  first | refine YR_intro (fun _ => acall_free rfl rfl (hc)) ?_ | refine YR_intro (acall_free rfl rfl (hc)) ?_
  simp only [go_sem, seval]
  (repeat refine And.intro (by first | omega | (intro hq; first | omega | (simp at hq <;> omega) | (simp_all <;> omega))) ?_)
  refine hK _ ?_; clear hK K
  refine ats_ret (finB rfl ?_)
  unfold gridB
  by_cases h : (g.length : Int) = n <;> simp [h]
theorem isCochain1_ok (g : List (List Int)) (n : Int) (o : List Int) (m : Int) (w : List (List (List Int))) (h1 : 1 ≤ m) (h2 : m ≤ 1000) : PureCall Try.prog 71 [.l2 g, .cptr [.int n] 0, .cptr [.l1 o, .int m, .l3 w] 0] (.bool (!gridB n m g)) := by
  refine PureCall.intro (n := 11) (rs := [.tmp 4]) Try.call71 Try.func71 rfl rfl rfl (by simp only [List.length_cons, List.length_nil]; omega) (fun cx hcx => ats_of ?_); simp only [argSlots, Nat.zero_add, Nat.reduceAdd]
  (repeat refine ats_seq ?_); refine ats_go (fix0 hcx) fun K hK => ?_; simp only [go_sem, seval]; (repeat refine And.intro (by first | omega | (intro hq; first | omega | (simp at hq <;> omega) | (simp_all <;> omega))) ?_); refine hK _ ?_; clear hK K
  (repeat refine ats_seq ?_); refine ats_go (fix0 hcx) fun K hK => ?_; simp only [go_sem, seval]
  (repeat refine And.intro (by first | omega | (intro hq; first | omega | (simp at hq <;> omega) | (simp_all <;> omega))) ?_)
  first | refine fcall_data (isGrid_ok g n m h1 h2) rfl ?_ | refine YR_intro (acall_data (isGrid_ok g n m h1 h2) rfl) ?_
  simp only [go_sem, seval]
  (repeat refine And.intro (by first | omega | (intro hq; first | omega | (simp at hq <;> omega) | (simp_all <;> omega))) ?_)
  refine hK _ ?_; clear hK K
  refine ats_ret (finB rfl ?_)
  rfl
theorem indexF3c_ok (xs : List (List (List Int))) (f : Nat) (caps : List AV) (p : List (List Int) → Bool) (hd : areData caps = true) (hf : ∀ x, PureCall Try.prog f (.l2 x :: caps) (.bool (p x))) : PureCall Try.prog 88 [.l3 xs, .fn f caps] (.int (fidx p xs)) := by
  refine PureCall.intro (n := 19) (rs := [.tmp 4]) Try.call88 Try.func88 rfl rfl rfl (by simp only [List.length_cons, List.length_nil]; omega) (fun cx hcx => ats_of ?_); simp only [argSlots, Nat.zero_add, Nat.reduceAdd]
  (repeat refine ats_seq ?_); refine ats_go (fix0 hcx) fun K hK => ?_; simp only [go_sem, seval]; refine hK _ ?_; clear hK K
  refine ats_know 0 fun h0 => ?_; simp only [St.get, slotGet, Nat.reduceEqDiff, ↓reduceIte, if_true, fact, facts] at h0
  have hlen := h0.1
  (repeat refine ats_seq ?_); refine ats_go (fix0 hcx) fun K hK => ?_; simp only [go_sem, seval]; refine hK _ ?_; clear hK K
  (repeat refine ats_seq ?_); refine ats_loop (fun k : Nat => ⟨[(0, .l3 xs), (1, .fn f caps), (7, .int xs.length), (8, .int k)], []⟩) (fun k => k ≤ xs.length ∧ ∀ i, i < k → p (xs.getD i []) = false) (fun k => xs.length - k) 0 ⟨Nat.zero_le _, fun a h => absurd h (Nat.not_lt_zero a)⟩ (by
    refine And.intro ?_ rfl; simp only [SlotsLe, St.get, slotGet, Nat.reduceEqDiff, ↓reduceIte, AV.int.injEq, AV.bool.injEq, AV.l1.injEq, AV.l2.injEq, AV.l3.injEq, true_and, and_true]
    rfl) (fun k hk => ?_)
  obtain ⟨hk, hK'⟩ := hk
  (repeat refine ats_seq ?_); refine ats_go (fix0 hcx) fun K hK => ?_; simp only [go_sem, seval]; refine hK _ ?_; clear hK K
  (repeat refine ats_seq ?_); first | refine ats_ifn (p := _) rfl trivial (fun h1 => ?_) (fun h1 => ?_) | refine ats_ifp (p := _) rfl trivial (fun h1 => ?_) (fun h1 => ?_) | refine ats_cond rfl trivial (fun h1 => ?_) (fun h1 => ?_)
  · refine ats_skip ?_
    (repeat refine ats_seq ?_); refine ats_block ?_
    (repeat refine ats_seq ?_); refine ats_go (fix0 hcx) fun K hK => ?_; simp only [go_sem, seval]; refine hK _ ?_; clear hK K
    (repeat refine ats_seq ?_); refine ats_go (fix0 hcx) fun K hK => ?_; simp only [go_sem, seval]
    (repeat refine And.intro (by first | omega | (intro hq; first | omega | (simp at hq <;> omega) | (simp_all <;> omega))) ?_)
    refine fcall_data (hf _) (by simp only [areData, Aw.isData, hd, Bool.and_true]) ?_
    simp only [go_sem, seval]
    refine hK _ ?_; clear hK K
    (repeat refine ats_seq ?_); first | refine ats_ifn (p := _) rfl trivial (fun h2 => ?_) (fun h2 => ?_) | refine ats_ifp (p := _) rfl trivial (fun h2 => ?_) (fun h2 => ?_) | refine ats_cond rfl trivial (fun h2 => ?_) (fun h2 => ?_)
    · (repeat refine ats_seq ?_); refine ats_go (fix0 hcx) fun K hK => ?_; simp only [go_sem, seval]; refine hK _ ?_; clear hK K
      refine ats_ret (finI rfl ?_)
      exact (fidx_some (d := []) (by omega) hK' h2).symm
    · refine ats_skip ?_
      (repeat refine ats_seq ?_); refine ats_go (fix0 hcx) fun K hK => ?_; simp only [go_sem, seval]; (repeat refine And.intro (by first | omega | (intro hq; first | omega | (simp at hq <;> omega) | (simp_all <;> omega))) ?_); refine hK _ ?_; clear hK K
      refine ⟨k + 1,  ⟨by omega, fun a ha => by rcases Nat.lt_succ_iff_lt_or_eq.1 ha with h | rfl; exact hK' a h; exact h2⟩, by omega, .inl ⟨?_, rfl⟩⟩; simp only [SlotsLe, St.get, slotGet, Nat.reduceEqDiff, ↓reduceIte, AV.int.injEq, AV.bool.injEq, AV.l1.injEq, AV.l2.injEq, AV.l3.injEq, true_and, and_true]
      omega
  · refine ats_exit (lq_x ?_)
    (repeat refine ats_seq ?_); refine ats_go (fix0 hcx) fun K hK => ?_; simp only [go_sem, seval]; refine hK _ ?_; clear hK K
    refine ats_ret (finI rfl ?_)
    exact (fidx_none (d := []) (fun i hi => hK' i (by omega))).symm
theorem containsF3c_ok (xs : List (List (List Int))) (f : Nat) (caps : List AV) (p : List (List Int) → Bool) (hd : areData caps = true) (hf : ∀ x, PureCall Try.prog f (.l2 x :: caps) (.bool (p x))) : PureCall Try.prog 70 [.l3 xs, .fn f caps] (.bool (xs.any p)) := by
  refine PureCall.intro (n := 9) (rs := [.tmp 4]) Try.call70 Try.func70 rfl rfl rfl (by simp only [List.length_cons, List.length_nil]; omega) (fun cx hcx => ats_of ?_); simp only [argSlots, Nat.zero_add, Nat.reduceAdd]
  (repeat refine ats_seq ?_); refine ats_go (fix0 hcx) fun K hK => ?_; simp only [go_sem, seval]; refine hK _ ?_; clear hK K
  (repeat refine ats_seq ?_); refine ats_go (fix0 hcx) fun K hK => ?_; simp only [go_sem, seval]
  refine fcall_data (indexF3c_ok xs f caps p hd hf) (by simp only [areData, Aw.isData, hd, Bool.and_true]) ?_
  simp only [go_sem, seval]
  refine hK _ ?_; clear hK K
  refine ats_ret (finB rfl ?_)
  exact fidx_any
theorem isCochain_ok (o : List Int) (m : Int) (w : List (List (List Int))) : PureCall Try.prog 46 [.agg [.l1 o, .int m, .l3 w]] (.bool (bd (CocS o m w))) := by
  have hg := groupSize_ok o
  refine PureCall.intro (n := 28) (rs := [.tmp 2]) Try.call46 Try.func46 rfl rfl rfl (by simp only [List.length_cons, List.length_nil]; omega) (fun cx hcx => ats_of ?_); simp only [argSlots, Nat.zero_add, Nat.reduceAdd]
  (repeat refine ats_seq ?_); refine ats_go (fix0 hcx) fun K hK => ?_; simp only [go_sem, seval]; (repeat refine And.intro (by first | omega | (intro hq; first | omega | (simp at hq <;> omega) | (simp_all <;> omega))) ?_); refine hK _ ?_; clear hK K
  (repeat refine ats_seq ?_); refine ats_go (fix0 hcx) fun K hK => ?_; simp only [go_sem, seval]
  (repeat refine And.intro (by first | omega | (intro hq; first | omega | (simp at hq <;> omega) | (simp_all <;> omega))) ?_)
  first | refine fcall_data (hg) rfl ?_ | refine YR_intro (acall_data (hg) rfl) ?_
  simp only [go_sem, seval]
  (repeat refine And.intro (by first | omega | (intro hq; first | omega | (simp at hq <;> omega) | (simp_all <;> omega))) ?_)
  refine hK _ ?_; clear hK K
  (repeat refine ats_seq ?_); refine ats_go (fix0 hcx) fun K hK => ?_; simp only [go_sem, seval]
  (repeat refine And.intro (by first | omega | (intro hq; first | omega | (simp at hq <;> omega) | (simp_all <;> omega))) ?_)
  first | refine fcall_data (within_ok (gsz o) 1 8) rfl ?_ | refine YR_intro (acall_data (within_ok (gsz o) 1 8) rfl) ?_
  simp only [go_sem, seval]
  (repeat refine And.intro (by first | omega | (intro hq; first | omega | (simp at hq <;> omega) | (simp_all <;> omega))) ?_)
  first | refine YR_intro (fun _ => acall_data (isModulus_ok m) rfl) ?_ | refine YR_intro (acall_data (isModulus_ok m) rfl) ?_
  simp only [go_sem, seval]
  (repeat refine And.intro (by first | omega | (intro hq; first | omega | (simp at hq <;> omega) | (simp_all <;> omega))) ?_)
  refine hK _ ?_; clear hK K
  (repeat refine ats_seq ?_); first | refine ats_ifn (p := _) rfl trivial (fun hc1 => ?_) (fun hc1 => ?_) | refine ats_ifp (p := _) rfl trivial (fun hc1 => ?_) (fun hc1 => ?_) | refine ats_cond rfl trivial (fun hc1 => ?_) (fun hc1 => ?_)
  · (repeat refine ats_seq ?_); refine ats_go (fix0 hcx) fun K hK => ?_; simp only [go_sem, seval]; (repeat refine And.intro (by first | omega | (intro hq; first | omega | (simp at hq <;> omega) | (simp_all <;> omega))) ?_); refine hK _ ?_; clear hK K
    refine ats_ret (finB rfl ?_)
    refine (bd_false (fun h => ?_)).symm
    have e : gsz o = prodO o := by
      unfold gsz min17
      rw [if_pos (bd_true h.1), if_pos (by have := h.2.1; omega)]
    have a1 := prodO_pos h.1
    have a2 := h.2.1
    have a3 := h.2.2.1
    have a4 := h.2.2.2.1
    have a5 := h.2.2.2.2.1
    rw [e] at hc1
    simp at hc1
    omega
  · have hh : ((1 ≤ gsz o ∧ gsz o ≤ 8) ∧ (1 ≤ m ∧ m ≤ 1000)) ∧ (w.length : Int) = gsz o := by simpa using hc1
    obtain ⟨⟨⟨g1, g8⟩, m1, m2⟩, hw⟩ := hh
    have hp : PosO o := by
      by_cases hp : PosO o
      · exact hp
      · unfold gsz at g1
        rw [bd_false hp] at g1
        exact absurd g1 (by simp)
    have e : gsz o = prodO o := by
      have h1 : gsz o = min17 (prodO o) := by unfold gsz; rw [if_pos (bd_true hp)]
      rw [h1] at g8 ⊢
      unfold min17 at g8 ⊢
      by_cases hh : prodO o ≤ 17
      · exact if_pos hh
      · rw [if_neg hh] at g8; omega
    have hc := containsF3c_ok w 71 [.cptr [.int (gsz o)] 0, .cptr [.l1 o, .int m, .l3 w] 0] (fun g => !gridB (gsz o) m g) rfl (fun g => isCochain1_ok g (gsz o) o m w m1 m2)
    refine ats_skip ?_
    (repeat refine ats_seq ?_); refine ats_go (fix0 hcx) fun K hK => ?_; simp only [go_sem, seval]
    (repeat refine And.intro (by first | omega | (intro hq; first | omega | (simp at hq <;> omega) | (simp_all <;> omega))) ?_)
    first | refine fcall_free rfl rfl (hc) ?_ | refine YR_intro (acall_free rfl rfl (hc)) ?_
    simp only [go_sem, seval]
    (repeat refine And.intro (by first | omega | (intro hq; first | omega | (simp at hq <;> omega) | (simp_all <;> omega))) ?_)
    refine hK _ ?_; clear hK K
    refine ats_ret (finB rfl ?_)
    rw [← hw]
    cases hv : w.any fun g => !gridB w.length m g with
    | false =>
      refine (bd_true ⟨hp, by omega, m1, m2, by omega, rfl, fun i hi => ?_⟩).symm
      have := (any_not []).1 hv i hi
      exact gridB_iff.1 (by simpa using this)
    | true =>
      refine (bd_false (fun h => ?_)).symm
      have : (w.any fun g => !gridB w.length m g) = false := by
        rw [any_not []]
        intro i hi
        have := gridB_iff.2 (h.2.2.2.2.2.2 i hi)
        simpa using this
      rw [this] at hv
      cases hv
set_option maxHeartbeats 2000000 in
theorem isNormalised_ok (o : List Int) (m : Int) (w : List (List (List Int))) (h : CocS o m w) : PureCall Try.prog 47 [.agg [.l1 o, .int m, .l3 w]] (.bool (bd (NormW w))) := by
  have n8 := h.n8
  have hc := h.2.2.2.2.2
  refine PureCall.intro (n := 48) (rs := [.tmp 2]) Try.call47 Try.func47 rfl rfl rfl (by simp only [List.length_cons, List.length_nil]; omega) (fun cx hcx => ats_of ?_); simp only [argSlots, Nat.zero_add, Nat.reduceAdd]
  (repeat refine ats_seq ?_); refine ats_go (fix0 hcx) fun K hK => ?_; simp only [go_sem, seval]; (repeat refine And.intro (by first | omega | (intro hq; first | omega | (simp at hq <;> omega) | (simp_all <;> omega))) ?_); refine hK _ ?_; clear hK K
  (repeat refine ats_seq ?_); refine ats_go (fix0 hcx) fun K hK => ?_; simp only [go_sem, seval]; (repeat refine And.intro (by first | omega | (intro hq; first | omega | (simp at hq <;> omega) | (simp_all <;> omega))) ?_); refine hK _ ?_; clear hK K
  (repeat refine ats_seq ?_); refine ats_loop (fun i : Nat => ⟨[(1, .bptr 0 0), (10, .l3 w), (11, .int w.length), (12, .int i)], [(0, .bx [.l1 o, .int m, .l3 w])]⟩) (fun i => i ≤ w.length ∧ ∀ b, b < i → ∀ j, j < w.length → ∀ k, k < w.length → e3 w b j k ≠ 0 → ¬ (b = 0 ∨ j = 0 ∨ k = 0)) (fun i => w.length - i) 0 ⟨Nat.zero_le _, fun a h => absurd h (Nat.not_lt_zero a)⟩ (by refine And.intro ?_ rfl; simp only [SlotsLe, St.get, slotGet, Nat.reduceEqDiff, ↓reduceIte, AV.int.injEq, AV.bool.injEq, AV.l1.injEq, AV.l2.injEq, AV.l3.injEq, true_and, and_true]; rfl) (fun i hi => ?_); obtain ⟨hi, Hi⟩ := hi
  (repeat refine ats_seq ?_); refine ats_go (fix0 hcx) fun K hK => ?_; simp only [go_sem, seval]; (repeat refine And.intro (by first | omega | (intro hq; first | omega | (simp at hq <;> omega) | (simp_all <;> omega))) ?_); refine hK _ ?_; clear hK K
  (repeat refine ats_seq ?_); first | refine ats_ifn (p := _) rfl trivial (fun hc2 => ?_) (fun hc2 => ?_) | refine ats_ifp (p := _) rfl trivial (fun hc2 => ?_) (fun hc2 => ?_) | refine ats_cond rfl trivial (fun hc2 => ?_) (fun hc2 => ?_)
  · have mi := hc.mat (show i < w.length by omega)
    refine ats_skip ?_
    (repeat refine ats_seq ?_); refine ats_block ?_
    (repeat refine ats_seq ?_); refine ats_go (fix0 hcx) fun K hK => ?_; simp only [go_sem, seval]; (repeat refine And.intro (by first | omega | (intro hq; first | omega | (simp at hq <;> omega) | (simp_all <;> omega))) ?_); refine hK _ ?_; clear hK K
    (repeat refine ats_seq ?_); refine ats_go (fix0 hcx) fun K hK => ?_; simp only [go_sem, seval]; (repeat refine And.intro (by first | omega | (intro hq; first | omega | (simp at hq <;> omega) | (simp_all <;> omega))) ?_); refine hK _ ?_; clear hK K
    rw [mi]
    (repeat refine ats_seq ?_); refine ats_loop (fun j : Nat => ⟨[(1, .bptr 0 0), (3, .int i), (10, .l3 w), (11, .int w.length), (12, .int i), (17, .l2 (w.getD i [])), (18, .int w.length), (19, .int j)], [(0, .bx [.l1 o, .int m, .l3 w])]⟩) (fun j => j ≤ w.length ∧ ∀ b, b < j → ∀ k, k < w.length → e3 w i b k ≠ 0 → ¬ (i = 0 ∨ b = 0 ∨ k = 0)) (fun j => w.length - j) 0 ⟨Nat.zero_le _, fun a h => absurd h (Nat.not_lt_zero a)⟩ (by refine And.intro ?_ rfl; simp only [SlotsLe, St.get, slotGet, Nat.reduceEqDiff, ↓reduceIte, AV.int.injEq, AV.bool.injEq, AV.l1.injEq, AV.l2.injEq, AV.l3.injEq, true_and, and_true]; rfl) (fun j hj => ?_); obtain ⟨hj, Hj⟩ := hj
    (repeat refine ats_seq ?_); refine ats_go (fix0 hcx) fun K hK => ?_; simp only [go_sem, seval]; (repeat refine And.intro (by first | omega | (intro hq; first | omega | (simp at hq <;> omega) | (simp_all <;> omega))) ?_); refine hK _ ?_; clear hK K
    (repeat refine ats_seq ?_); first | refine ats_ifn (p := _) rfl trivial (fun hc4 => ?_) (fun hc4 => ?_) | refine ats_ifp (p := _) rfl trivial (fun hc4 => ?_) (fun hc4 => ?_) | refine ats_cond rfl trivial (fun hc4 => ?_) (fun hc4 => ?_)
    · have rij := hc.row (show i < w.length by omega) (show j < w.length by omega)
      refine ats_skip ?_
      (repeat refine ats_seq ?_); refine ats_block ?_
      (repeat refine ats_seq ?_); refine ats_go (fix0 hcx) fun K hK => ?_; simp only [go_sem, seval]; (repeat refine And.intro (by first | omega | (intro hq; first | omega | (simp at hq <;> omega) | (simp_all <;> omega))) ?_); refine hK _ ?_; clear hK K
      (repeat refine ats_seq ?_); refine ats_go (fix0 hcx) fun K hK => ?_; simp only [go_sem, seval]; (repeat refine And.intro (by first | omega | (intro hq; first | omega | (simp at hq <;> omega) | (simp_all <;> omega))) ?_); refine hK _ ?_; clear hK K
      rw [rij]
      (repeat refine ats_seq ?_); refine ats_loop (fun k : Nat => ⟨[(1, .bptr 0 0), (3, .int i), (5, .int j), (10, .l3 w), (11, .int w.length), (12, .int i), (17, .l2 (w.getD i [])), (18, .int w.length), (19, .int j), (24, .l1 ((w.getD i []).getD j [])), (25, .int w.length), (26, .int k)], [(0, .bx [.l1 o, .int m, .l3 w])]⟩) (fun k => k ≤ w.length ∧ ∀ b, b < k → e3 w i j b ≠ 0 → ¬ (i = 0 ∨ j = 0 ∨ b = 0)) (fun k => w.length - k) 0 ⟨Nat.zero_le _, fun a h => absurd h (Nat.not_lt_zero a)⟩ (by refine And.intro ?_ rfl; simp only [SlotsLe, St.get, slotGet, Nat.reduceEqDiff, ↓reduceIte, AV.int.injEq, AV.bool.injEq, AV.l1.injEq, AV.l2.injEq, AV.l3.injEq, true_and, and_true]; rfl) (fun k hk => ?_); obtain ⟨hk, Hk⟩ := hk
      (repeat refine ats_seq ?_); refine ats_go (fix0 hcx) fun K hK => ?_; simp only [go_sem, seval]; (repeat refine And.intro (by first | omega | (intro hq; first | omega | (simp at hq <;> omega) | (simp_all <;> omega))) ?_); refine hK _ ?_; clear hK K
      (repeat refine ats_seq ?_); first | refine ats_ifn (p := _) rfl trivial (fun hc6 => ?_) (fun hc6 => ?_) | refine ats_ifp (p := _) rfl trivial (fun hc6 => ?_) (fun hc6 => ?_) | refine ats_cond rfl trivial (fun hc6 => ?_) (fun hc6 => ?_)
      · refine ats_skip ?_
        (repeat refine ats_seq ?_); refine ats_block ?_
        (repeat refine ats_seq ?_); refine ats_go (fix0 hcx) fun K hK => ?_; simp only [go_sem, seval]; (repeat refine And.intro (by first | omega | (intro hq; first | omega | (simp at hq <;> omega) | (simp_all <;> omega))) ?_); refine hK _ ?_; clear hK K
        (repeat refine ats_seq ?_); refine ats_go (fix0 hcx) fun K hK => ?_; simp only [go_sem, seval]; (repeat refine And.intro (by first | omega | (intro hq; first | omega | (simp at hq <;> omega) | (simp_all <;> omega))) ?_); refine hK _ ?_; clear hK K
        (repeat refine ats_seq ?_); first | refine ats_ifn (p := _) rfl trivial (fun hc7 => ?_) (fun hc7 => ?_) | refine ats_ifp (p := _) rfl trivial (fun hc7 => ?_) (fun hc7 => ?_) | refine ats_cond rfl trivial (fun hc7 => ?_) (fun hc7 => ?_)
        · (repeat refine ats_seq ?_); refine ats_go (fix0 hcx) fun K hK => ?_; simp only [go_sem, seval]; (repeat refine And.intro (by first | omega | (intro hq; first | omega | (simp at hq <;> omega) | (simp_all <;> omega))) ?_); refine hK _ ?_; clear hK K
          refine ats_ret (finB rfl ?_)
          refine (bd_false (fun h => ?_)).symm
          simp [-List.getD_eq_getElem?_getD] at hc7
          have a1 := h j (by omega) k (by omega)
          have a2 := h i (by omega) k (by omega)
          have a3 := h i (by omega) j (by omega)
          rcases hc7 with ⟨hn, (rfl | rfl) | rfl⟩
          · exact hn a1.1
          · exact hn a2.2.1
          · exact hn a3.2.2
        · have hb : e3 w i j k ≠ 0 → ¬ (i = 0 ∨ j = 0 ∨ k = 0) := by
            simp [-List.getD_eq_getElem?_getD] at hc7
            intro hn
            have := hc7 hn
            omega
          refine ats_skip ?_
          (repeat refine ats_seq ?_); refine ats_go (fix0 hcx) fun K hK => ?_; simp only [go_sem, seval]; (repeat refine And.intro (by first | omega | (intro hq; first | omega | (simp at hq <;> omega) | (simp_all <;> omega))) ?_); refine hK _ ?_; clear hK K
          refine ⟨k + 1, ⟨by omega, fun a ha => by rcases Nat.lt_succ_iff_lt_or_eq.1 ha with h | rfl; exact Hk a h; exact hb⟩, by omega, .inl ⟨?_, rfl⟩⟩; simp only [SlotsLe, St.get, slotGet, Nat.reduceEqDiff, ↓reduceIte, AV.int.injEq, AV.bool.injEq, AV.l1.injEq, AV.l2.injEq, AV.l3.injEq, true_and, and_true]; omega
      · refine ats_exit (lq_x (ats_nil (bq_n ?_)))
        (repeat refine ats_seq ?_); refine ats_go (fix0 hcx) fun K hK => ?_; simp only [go_sem, seval]; (repeat refine And.intro (by first | omega | (intro hq; first | omega | (simp at hq <;> omega) | (simp_all <;> omega))) ?_); refine hK _ ?_; clear hK K
        refine ⟨j + 1, ⟨by omega, fun a ha => by rcases Nat.lt_succ_iff_lt_or_eq.1 ha with h | rfl; exact Hj a h; exact fun k hk => Hk k (by omega)⟩, by omega, .inl ⟨?_, rfl⟩⟩; simp only [SlotsLe, St.get, slotGet, Nat.reduceEqDiff, ↓reduceIte, AV.int.injEq, AV.bool.injEq, AV.l1.injEq, AV.l2.injEq, AV.l3.injEq, true_and, and_true]; omega
    · refine ats_exit (lq_x (ats_nil (bq_n ?_)))
      (repeat refine ats_seq ?_); refine ats_go (fix0 hcx) fun K hK => ?_; simp only [go_sem, seval]; (repeat refine And.intro (by first | omega | (intro hq; first | omega | (simp at hq <;> omega) | (simp_all <;> omega))) ?_); refine hK _ ?_; clear hK K
      refine ⟨i + 1, ⟨by omega, fun a ha => by rcases Nat.lt_succ_iff_lt_or_eq.1 ha with h | rfl; exact Hi a h; exact fun j hj => Hj j (by omega)⟩, by omega, .inl ⟨?_, rfl⟩⟩; simp only [SlotsLe, St.get, slotGet, Nat.reduceEqDiff, ↓reduceIte, AV.int.injEq, AV.bool.injEq, AV.l1.injEq, AV.l2.injEq, AV.l3.injEq, true_and, and_true]; omega
  · refine ats_exit (lq_x ?_)
    (repeat refine ats_seq ?_); refine ats_go (fix0 hcx) fun K hK => ?_; simp only [go_sem, seval]; (repeat refine And.intro (by first | omega | (intro hq; first | omega | (simp at hq <;> omega) | (simp_all <;> omega))) ?_); refine hK _ ?_; clear hK K
    refine ats_ret (finB rfl ?_)
    refine (bd_true fun i hi j hj => ⟨?_, ?_, ?_⟩).symm
    · exact Classical.byContradiction fun hn => Hi 0 (by omega) i hi j hj hn (.inl rfl)
    · exact Classical.byContradiction fun hn => Hi i (by omega) 0 (by omega) j hj hn (.inr (.inl rfl))
    · exact Classical.byContradiction fun hn => Hi i (by omega) j hj 0 (by omega) hn (.inr (.inr rfl))
theorem plus_ok (o : List Int) (m : Int) (w : List (List (List Int))) (h : PosO o) (h8 : prodO o ≤ 8) (x y : Nat) (hx : x ≤ 8) (hy : y ≤ 8) : PureCall Try.prog 73 [.agg [.l1 o, .int m, .l3 w], .int x, .int y] (.int (ad o x y)) := by
  refine PureCall.intro (n := 12) (rs := [.tmp 6]) Try.call73 Try.func73 rfl rfl rfl (by simp only [List.length_cons, List.length_nil]; omega) (fun cx hcx => ats_of ?_); simp only [argSlots, Nat.zero_add, Nat.reduceAdd]
  (repeat refine ats_seq ?_); refine ats_go (fix0 hcx) fun K hK => ?_; simp only [go_sem, seval]; (repeat refine And.intro (by first | omega | (intro hq; first | omega | (simp at hq <;> omega) | (simp_all <;> omega))) ?_); refine hK _ ?_; clear hK K
  (repeat refine ats_seq ?_); refine ats_go (fix0 hcx) fun K hK => ?_; simp only [go_sem, seval]
  (repeat refine And.intro (by first | omega | (intro hq; first | omega | (simp at hq <;> omega) | (simp_all <;> omega))) ?_)
  first | refine fcall_data (addElements_ok o h h8 x y hx hy) rfl ?_ | refine YR_intro (acall_data (addElements_ok o h h8 x y hx hy) rfl) ?_
  simp only [go_sem, seval]
  (repeat refine And.intro (by first | omega | (intro hq; first | omega | (simp at hq <;> omega) | (simp_all <;> omega))) ?_)
  refine hK _ ?_; clear hK K
  refine ats_ret (finI rfl ?_)
  rfl
end Go.Proofs.Ytaijdhkjemffhaa
