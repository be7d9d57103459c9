import Derived.Test.YtaijdhkjemffhaaHx1
import Derived.Test.YtaijdhkjemffhaaHe
import Derived.Test.YtaijdhkjemffhaaWx3
set_option linter.unusedSimpArgs false
set_option linter.unusedVariables false
namespace Go.Proofs.Ytaijdhkjemffhaa
open Go Go.Aw Go.Pl
set_option maxRecDepth 100000 in
set_option maxHeartbeats 8000000 in
theorem l17Fault_ok (o : List Int) (m : Int) (w : List (List (List Int))) (h : CocS o m w) : PureCall Try.prog 40 [.agg [.l1 o, .int m, .l3 w]] (optA (cfF o m w)) := by
  have n8 := h.n8
  have hp := h.1
  have h8 := h.2.1
  have m1 := h.2.2.1
  have m2 := h.2.2.2.1
  have hc := h.2.2.2.2.2
  have had := h.ad
  refine PureCall.intro (n := 115) (rs := [.tmp 2]) Try.call40 Try.func40 rfl rfl rfl (by simp only [List.length_cons, List.length_nil]; omega) (fun cx hcx => ats_of ?_); simp only [argSlots, Nat.zero_add, Nat.reduceAdd]
  (repeat refine ats_seq ?_); refine ats_go (fix0 hcx) fun K hK => ?_; simp only [go_sem, seval]; refine hK _ ?_; clear hK K
  (repeat refine ats_seq ?_); refine ats_pick (fix0 hcx) mixed (by kernel_rfl) fun K hK => ?_; simp only [go_sem, seval]; (repeat refine And.intro (by first | omega | (intro hq; first | omega | (simp at hq <;> omega) | (simp_all <;> omega))) ?_); refine hK _ ?_; clear hK K
  (repeat refine ats_seq ?_); refine ats_go (fix0 hcx) fun K hK => ?_; simp only [go_sem, seval]; refine hK _ ?_; clear hK K
  (repeat refine ats_seq ?_); refine ats_loop (fun i : Nat => ⟨[(1, .bptr 0 0), (3, .int w.length), (4, .l3 w), (5, .int i)], [(0, .bx [.l1 o, .int m, .l3 w])]⟩) (fun i => i ≤ w.length ∧ ∀ b, b < i → first w.length (fun y => first w.length fun z => first w.length (cfG o m w b y z)) = none) (fun i => w.length - i) 0 ⟨Nat.zero_le _, fun a h => absurd h (Nat.not_lt_zero a)⟩ (by refine And.intro ?_ rfl; simp only [SlotsLe, St.get, slotGet, Nat.reduceEqDiff, ↓reduceIte, AV.int.injEq, AV.bool.injEq, AV.l1.injEq, AV.l2.injEq, AV.l3.injEq, true_and, and_true]; rfl) (fun i hi => ?_); obtain ⟨hi, Hi⟩ := hi
  (repeat refine ats_seq ?_); refine ats_go (fix0 hcx) fun K hK => ?_; simp only [go_sem, seval]; refine hK _ ?_; clear hK K
  (repeat refine ats_seq ?_); first | refine ats_ifn (p := _) rfl trivial (fun hli => ?_) (fun hli => ?_) | refine ats_ifp (p := _) rfl trivial (fun hli => ?_) (fun hli => ?_) | refine ats_cond rfl trivial (fun hli => ?_) (fun hli => ?_)
  · have mi := hc.mat (show i < w.length by omega)
    refine ats_skip ?_
    (repeat refine ats_seq ?_); refine ats_block ?_
    (repeat refine ats_seq ?_); refine ats_go (fix0 hcx) fun K hK => ?_; simp only [go_sem, seval]; refine hK _ ?_; clear hK K
    (repeat refine ats_seq ?_); refine ats_loop (fun j : Nat => ⟨[(1, .bptr 0 0), (3, .int w.length), (4, .l3 w), (5, .int i), (6, .int j)], [(0, .bx [.l1 o, .int m, .l3 w])]⟩) (fun j => j ≤ w.length ∧ ∀ b, b < j → first w.length (fun z => first w.length (cfG o m w i b z)) = none) (fun j => w.length - j) 0 ⟨Nat.zero_le _, fun a h => absurd h (Nat.not_lt_zero a)⟩ (by refine And.intro ?_ rfl; simp only [SlotsLe, St.get, slotGet, Nat.reduceEqDiff, ↓reduceIte, AV.int.injEq, AV.bool.injEq, AV.l1.injEq, AV.l2.injEq, AV.l3.injEq, true_and, and_true]; rfl) (fun j hj => ?_); obtain ⟨hj, Hj⟩ := hj
    (repeat refine ats_seq ?_); refine ats_go (fix0 hcx) fun K hK => ?_; simp only [go_sem, seval]; refine hK _ ?_; clear hK K
    (repeat refine ats_seq ?_); first | refine ats_ifn (p := _) rfl trivial (fun hlj => ?_) (fun hlj => ?_) | refine ats_ifp (p := _) rfl trivial (fun hlj => ?_) (fun hlj => ?_) | refine ats_cond rfl trivial (fun hlj => ?_) (fun hlj => ?_)
    · have mj := hc.mat (show j < w.length by omega)
      have rij := hc.row (show i < w.length by omega) (show j < w.length by omega)
      have hA1 := l06Add_ok o hp h8 i j (by omega) (by omega)
      have hp1 := had i j
      obtain ⟨p, ep⟩ : ∃ p, ad o i j = p := ⟨_, rfl⟩
      rw [ep] at hA1 hp1
      have mp := hc.mat hp1
      refine ats_skip ?_
      (repeat refine ats_seq ?_); refine ats_block ?_
      (repeat refine ats_seq ?_); refine ats_go (fix0 hcx) fun K hK => ?_; simp only [go_sem, seval]; refine hK _ ?_; clear hK K
      (repeat refine ats_seq ?_); refine ats_loop (fun k : Nat => ⟨[(1, .bptr 0 0), (3, .int w.length), (4, .l3 w), (5, .int i), (6, .int j), (7, .int k)], [(0, .bx [.l1 o, .int m, .l3 w])]⟩) (fun k => k ≤ w.length ∧ ∀ b, b < k → first w.length (cfG o m w i j b) = none) (fun k => w.length - k) 0 ⟨Nat.zero_le _, fun a h => absurd h (Nat.not_lt_zero a)⟩ (by refine And.intro ?_ rfl; simp only [SlotsLe, St.get, slotGet, Nat.reduceEqDiff, ↓reduceIte, AV.int.injEq, AV.bool.injEq, AV.l1.injEq, AV.l2.injEq, AV.l3.injEq, true_and, and_true]; rfl) (fun k hk => ?_); obtain ⟨hk, Hk⟩ := hk
      (repeat refine ats_seq ?_); refine ats_go (fix0 hcx) fun K hK => ?_; simp only [go_sem, seval]; refine hK _ ?_; clear hK K
      (repeat refine ats_seq ?_); first | refine ats_ifn (p := _) rfl trivial (fun hlk => ?_) (fun hlk => ?_) | refine ats_ifp (p := _) rfl trivial (fun hlk => ?_) (fun hlk => ?_) | refine ats_cond rfl trivial (fun hlk => ?_) (fun hlk => ?_)
      · have rjk := hc.row (show j < w.length by omega) (show k < w.length by omega)
        have hA2 := l06Add_ok o hp h8 j k (by omega) (by omega)
        have hp2 := had j k
        obtain ⟨q, eq⟩ : ∃ q, ad o j k = q := ⟨_, rfl⟩
        rw [eq] at hA2 hp2
        have rpk := hc.row hp1 (show k < w.length by omega)
        have riq := hc.row (show i < w.length by omega) hp2
        refine ats_skip ?_
        (repeat refine ats_seq ?_); refine ats_block ?_
        (repeat refine ats_seq ?_); refine ats_go (fix0 hcx) fun K hK => ?_; simp only [go_sem, seval]; refine hK _ ?_; clear hK K
        (repeat refine ats_seq ?_); refine ats_loop (fun l : Nat => ⟨[(1, .bptr 0 0), (3, .int w.length), (4, .l3 w), (5, .int i), (6, .int j), (7, .int k), (8, .int l)], [(0, .bx [.l1 o, .int m, .l3 w])]⟩) (fun l => l ≤ w.length ∧ ∀ b, b < l → cfG o m w i j k b = none) (fun l => w.length - l) 0 ⟨Nat.zero_le _, fun a h => absurd h (Nat.not_lt_zero a)⟩ (by refine And.intro ?_ rfl; simp only [SlotsLe, St.get, slotGet, Nat.reduceEqDiff, ↓reduceIte, AV.int.injEq, AV.bool.injEq, AV.l1.injEq, AV.l2.injEq, AV.l3.injEq, true_and, and_true]; rfl) (fun l hl => ?_); obtain ⟨hl, Hl⟩ := hl
        (repeat refine ats_seq ?_); refine ats_go (fix0 hcx) fun K hK => ?_; simp only [go_sem, seval]; refine hK _ ?_; clear hK K
        (repeat refine ats_seq ?_); first | refine ats_ifn (p := _) rfl trivial (fun hll => ?_) (fun hll => ?_) | refine ats_ifp (p := _) rfl trivial (fun hll => ?_) (fun hll => ?_) | refine ats_cond rfl trivial (fun hll => ?_) (fun hll => ?_)
        · have hA3 := l06Add_ok o hp h8 k l (by omega) (by omega)
          have hp3 := had k l
          obtain ⟨r, er⟩ : ∃ r, ad o k l = r := ⟨_, rfl⟩
          rw [er] at hA3 hp3
          have v1 := hc.bd (i := j) (j := k) (k := l) (by omega) (by omega) (by omega)
          have v2 := hc.bd (i := p) (j := k) (k := l) (by omega) (by omega) (by omega)
          have v3 := hc.bd (i := i) (j := q) (k := l) (by omega) (by omega) (by omega)
          have v4 := hc.bd (i := i) (j := j) (k := r) (by omega) (by omega) (by omega)
          have v5 := hc.bd (i := i) (j := j) (k := k) (by omega) (by omega) (by omega)
          have ev : cfV o w i j k l = e3 w j k l - e3 w p k l + e3 w i q l - e3 w i j r + e3 w i j k := by unfold cfV; rw [ep, eq, er]
          simp only [e3] at v1 v2 v3 v4 v5 ev
          have bt : -m < (cfV o w i j k l).tmod m ∧ (cfV o w i j k l).tmod m < m := by
            refine ⟨?_, Int.tmod_lt_of_pos _ (by omega)⟩
            have := Int.tmod_lt_of_pos (-(cfV o w i j k l)) (show 0 < m by omega)
            rw [Int.neg_tmod] at this
            omega
          rw [ev] at bt
          refine ats_skip ?_
          (repeat refine ats_seq ?_); refine ats_block ?_
          (repeat refine ats_seq ?_); refine ats_pick (fix0 hcx) mixed (by kernel_rfl) fun K hK => ?_; simp only [go_sem, seval]
          (repeat refine And.intro (by first | omega | (intro hq; first | omega | (simp at hq <;> omega) | (simp_all <;> omega))) ?_)
          first | refine fcall_data (hA1) rfl ?_ | refine YR_intro (acall_data (hA1) rfl) ?_
          simp only [go_sem, seval]
          (repeat refine And.intro (by first | omega | (intro hq; first | omega | (simp at hq <;> omega) | (simp_all <;> omega))) ?_)
          first | refine fcall_data (hA2) rfl ?_ | refine YR_intro (acall_data (hA2) rfl) ?_
          simp only [go_sem, seval]
          (repeat refine And.intro (by first | omega | (intro hq; first | omega | (simp at hq <;> omega) | (simp_all <;> omega))) ?_)
          first | refine fcall_data (hA3) rfl ?_ | refine YR_intro (acall_data (hA3) rfl) ?_
          simp only [go_sem, seval]
          (repeat refine And.intro (by first | omega | (intro hq; first | omega | (simp at hq <;> omega) | (simp_all <;> omega))) ?_)
          refine hK _ ?_; clear hK K
          (repeat refine ats_seq ?_); refine ats_pick (fix0 hcx) mixed (by kernel_rfl) fun K hK => ?_; simp only [go_sem, seval]; (repeat refine And.intro (by first | omega | (intro hq; first | omega | (simp at hq <;> omega) | (simp_all <;> omega))) ?_); refine hK _ ?_; clear hK K
          (repeat refine ats_seq ?_); first | refine ats_ifn (p := _) rfl trivial (fun hne => ?_) (fun hne => ?_) | refine ats_ifp (p := _) rfl trivial (fun hne => ?_) (fun hne => ?_) | refine ats_cond rfl trivial (fun hne => ?_) (fun hne => ?_)
          · (repeat refine ats_seq ?_); refine ats_go (fix0 hcx) fun K hK => ?_; simp only [go_sem, seval]; (repeat refine And.intro (by first | omega | (intro hq; first | omega | (simp at hq <;> omega) | (simp_all <;> omega))) ?_); refine hK _ ?_; clear hK K
            rw [← ev] at hne
            have e : cfF o m w = some [(i : Int), (j : Int), (k : Int), (l : Int)] := first_some (by omega) Hi (first_some (by omega) Hj (first_some (by omega) Hk (first_some (by omega) Hl (if_pos (fun h => hne (tmod_zero.2 h))))))
            exact ats_ret (finV rfl ⟨rfl, trivial⟩ (by rw [e]; rfl))
          · rw [← ev] at hne
            refine ats_skip ?_
            (repeat refine ats_seq ?_); refine ats_go (fix0 hcx) fun K hK => ?_; simp only [go_sem, seval]; (repeat refine And.intro (by first | omega | (intro hq; first | omega | (simp at hq <;> omega) | (simp_all <;> omega))) ?_); refine hK _ ?_; clear hK K
            refine ⟨l + 1, ⟨by omega, fun a ha => by rcases Nat.lt_succ_iff_lt_or_eq.1 ha with h | rfl; exact Hl a h; exact if_neg (fun h => h (tmod_zero.1 hne))⟩, by omega, .inl ⟨?_, rfl⟩⟩; simp only [SlotsLe, St.get, slotGet, Nat.reduceEqDiff, ↓reduceIte, AV.int.injEq, AV.bool.injEq, AV.l1.injEq, AV.l2.injEq, AV.l3.injEq, true_and, and_true]; omega
        · refine ats_exit (lq_x (ats_nil (bq_n ?_)))
          (repeat refine ats_seq ?_); refine ats_go (fix0 hcx) fun K hK => ?_; simp only [go_sem, seval]; (repeat refine And.intro (by first | omega | (intro hq; first | omega | (simp at hq <;> omega) | (simp_all <;> omega))) ?_); refine hK _ ?_; clear hK K
          refine ⟨k + 1, ⟨by omega, fun a ha => by rcases Nat.lt_succ_iff_lt_or_eq.1 ha with h | rfl; exact Hk a h; exact first_none (fun k hk => Hl k (by omega))⟩, by omega, .inl ⟨?_, rfl⟩⟩; simp only [SlotsLe, St.get, slotGet, Nat.reduceEqDiff, ↓reduceIte, AV.int.injEq, AV.bool.injEq, AV.l1.injEq, AV.l2.injEq, AV.l3.injEq, true_and, and_true]; omega
      · refine ats_exit (lq_x (ats_nil (bq_n ?_)))
        (repeat refine ats_seq ?_); refine ats_go (fix0 hcx) fun K hK => ?_; simp only [go_sem, seval]; (repeat refine And.intro (by first | omega | (intro hq; first | omega | (simp at hq <;> omega) | (simp_all <;> omega))) ?_); refine hK _ ?_; clear hK K
        refine ⟨j + 1, ⟨by omega, fun a ha => by rcases Nat.lt_succ_iff_lt_or_eq.1 ha with h | rfl; exact Hj a h; exact first_none (fun k hk => Hk k (by omega))⟩, by omega, .inl ⟨?_, rfl⟩⟩; simp only [SlotsLe, St.get, slotGet, Nat.reduceEqDiff, ↓reduceIte, AV.int.injEq, AV.bool.injEq, AV.l1.injEq, AV.l2.injEq, AV.l3.injEq, true_and, and_true]; omega
    · refine ats_exit (lq_x (ats_nil (bq_n ?_)))
      (repeat refine ats_seq ?_); refine ats_go (fix0 hcx) fun K hK => ?_; simp only [go_sem, seval]; (repeat refine And.intro (by first | omega | (intro hq; first | omega | (simp at hq <;> omega) | (simp_all <;> omega))) ?_); refine hK _ ?_; clear hK K
      refine ⟨i + 1, ⟨by omega, fun a ha => by rcases Nat.lt_succ_iff_lt_or_eq.1 ha with h | rfl; exact Hi a h; exact first_none (fun k hk => Hj k (by omega))⟩, by omega, .inl ⟨?_, rfl⟩⟩; simp only [SlotsLe, St.get, slotGet, Nat.reduceEqDiff, ↓reduceIte, AV.int.injEq, AV.bool.injEq, AV.l1.injEq, AV.l2.injEq, AV.l3.injEq, true_and, and_true]; omega
  · refine ats_exit (lq_x ?_)
    (repeat refine ats_seq ?_); refine ats_go (fix0 hcx) fun K hK => ?_; simp only [go_sem, seval]; refine hK _ ?_; clear hK K
    have e : cfF o m w = none := first_none (fun k hk => Hi k (by omega))
    exact ats_ret (finV rfl ⟨rfl, trivial⟩ (by rw [e]; rfl))
set_option maxRecDepth 100000 in
set_option maxHeartbeats 8000000 in
theorem cfault_ok (o : List Int) (m : Int) (w : List (List (List Int))) (h : CocS o m w) : PureCall Try.prog 48 [.agg [.l1 o, .int m, .l3 w]] (optA (cfF o m w)) := by
  have n8 := h.n8
  have hp := h.1
  have h8 := h.2.1
  have m1 := h.2.2.1
  have m2 := h.2.2.2.1
  have hc := h.2.2.2.2.2
  have had := h.ad
  refine PureCall.intro (n := 107) (rs := [.tmp 2]) Try.call48 Try.func48 rfl rfl rfl (by simp only [List.length_cons, List.length_nil]; omega) (fun cx hcx => ats_of ?_); simp only [argSlots, Nat.zero_add, Nat.reduceAdd]
  (repeat refine ats_seq ?_); refine ats_go (fix0 hcx) fun K hK => ?_; simp only [go_sem, seval]; refine hK _ ?_; clear hK K
  (repeat refine ats_seq ?_); refine ats_go (fix0 hcx) fun K hK => ?_; simp only [go_sem, seval]; (repeat refine And.intro (by first | omega | (intro hq; first | omega | (simp at hq <;> omega) | (simp_all <;> omega))) ?_); refine hK _ ?_; clear hK K
  (repeat refine ats_seq ?_); refine ats_go (fix0 hcx) fun K hK => ?_; simp only [go_sem, seval]; refine hK _ ?_; clear hK K
  (repeat refine ats_seq ?_); refine ats_loop (fun i : Nat => ⟨[(1, .bptr 0 0), (3, .l3 w), (12, .int w.length), (13, .int i)], [(0, .bx [.l1 o, .int m, .l3 w])]⟩) (fun i => i ≤ w.length ∧ ∀ b, b < i → first w.length (fun y => first w.length fun z => first w.length (cfG o m w b y z)) = none) (fun i => w.length - i) 0 ⟨Nat.zero_le _, fun a h => absurd h (Nat.not_lt_zero a)⟩ (by refine And.intro ?_ rfl; simp only [SlotsLe, St.get, slotGet, Nat.reduceEqDiff, ↓reduceIte, AV.int.injEq, AV.bool.injEq, AV.l1.injEq, AV.l2.injEq, AV.l3.injEq, true_and, and_true]; rfl) (fun i hi => ?_); obtain ⟨hi, Hi⟩ := hi
  (repeat refine ats_seq ?_); refine ats_go (fix0 hcx) fun K hK => ?_; simp only [go_sem, seval]; refine hK _ ?_; clear hK K
  (repeat refine ats_seq ?_); first | refine ats_ifn (p := _) rfl trivial (fun hli => ?_) (fun hli => ?_) | refine ats_ifp (p := _) rfl trivial (fun hli => ?_) (fun hli => ?_) | refine ats_cond rfl trivial (fun hli => ?_) (fun hli => ?_)
  · have mi := hc.mat (show i < w.length by omega)
    refine ats_skip ?_
    (repeat refine ats_seq ?_); refine ats_block ?_
    (repeat refine ats_seq ?_); refine ats_go (fix0 hcx) fun K hK => ?_; simp only [go_sem, seval]; refine hK _ ?_; clear hK K
    (repeat refine ats_seq ?_); refine ats_go (fix0 hcx) fun K hK => ?_; simp only [go_sem, seval]; refine hK _ ?_; clear hK K
    (repeat refine ats_seq ?_); refine ats_loop (fun j : Nat => ⟨[(1, .bptr 0 0), (3, .l3 w), (4, .int i), (12, .int w.length), (13, .int i), (17, .int w.length), (18, .int j)], [(0, .bx [.l1 o, .int m, .l3 w])]⟩) (fun j => j ≤ w.length ∧ ∀ b, b < j → first w.length (fun z => first w.length (cfG o m w i b z)) = none) (fun j => w.length - j) 0 ⟨Nat.zero_le _, fun a h => absurd h (Nat.not_lt_zero a)⟩ (by refine And.intro ?_ rfl; simp only [SlotsLe, St.get, slotGet, Nat.reduceEqDiff, ↓reduceIte, AV.int.injEq, AV.bool.injEq, AV.l1.injEq, AV.l2.injEq, AV.l3.injEq, true_and, and_true]; rfl) (fun j hj => ?_); obtain ⟨hj, Hj⟩ := hj
    (repeat refine ats_seq ?_); refine ats_go (fix0 hcx) fun K hK => ?_; simp only [go_sem, seval]; refine hK _ ?_; clear hK K
    (repeat refine ats_seq ?_); first | refine ats_ifn (p := _) rfl trivial (fun hlj => ?_) (fun hlj => ?_) | refine ats_ifp (p := _) rfl trivial (fun hlj => ?_) (fun hlj => ?_) | refine ats_cond rfl trivial (fun hlj => ?_) (fun hlj => ?_)
    · have mj := hc.mat (show j < w.length by omega)
      have rij := hc.row (show i < w.length by omega) (show j < w.length by omega)
      have hA1 := plus_ok o m w hp h8 i j (by omega) (by omega)
      have hp1 := had i j
      obtain ⟨p, ep⟩ : ∃ p, ad o i j = p := ⟨_, rfl⟩
      rw [ep] at hA1 hp1
      have mp := hc.mat hp1
      refine ats_skip ?_
      (repeat refine ats_seq ?_); refine ats_block ?_
      (repeat refine ats_seq ?_); refine ats_go (fix0 hcx) fun K hK => ?_; simp only [go_sem, seval]; refine hK _ ?_; clear hK K
      (repeat refine ats_seq ?_); refine ats_go (fix0 hcx) fun K hK => ?_; simp only [go_sem, seval]; refine hK _ ?_; clear hK K
      (repeat refine ats_seq ?_); refine ats_loop (fun k : Nat => ⟨[(1, .bptr 0 0), (3, .l3 w), (4, .int i), (5, .int j), (12, .int w.length), (13, .int i), (17, .int w.length), (18, .int j), (22, .int w.length), (23, .int k)], [(0, .bx [.l1 o, .int m, .l3 w])]⟩) (fun k => k ≤ w.length ∧ ∀ b, b < k → first w.length (cfG o m w i j b) = none) (fun k => w.length - k) 0 ⟨Nat.zero_le _, fun a h => absurd h (Nat.not_lt_zero a)⟩ (by refine And.intro ?_ rfl; simp only [SlotsLe, St.get, slotGet, Nat.reduceEqDiff, ↓reduceIte, AV.int.injEq, AV.bool.injEq, AV.l1.injEq, AV.l2.injEq, AV.l3.injEq, true_and, and_true]; rfl) (fun k hk => ?_); obtain ⟨hk, Hk⟩ := hk
      (repeat refine ats_seq ?_); refine ats_go (fix0 hcx) fun K hK => ?_; simp only [go_sem, seval]; refine hK _ ?_; clear hK K
      (repeat refine ats_seq ?_); first | refine ats_ifn (p := _) rfl trivial (fun hlk => ?_) (fun hlk => ?_) | refine ats_ifp (p := _) rfl trivial (fun hlk => ?_) (fun hlk => ?_) | refine ats_cond rfl trivial (fun hlk => ?_) (fun hlk => ?_)
      · have rjk := hc.row (show j < w.length by omega) (show k < w.length by omega)
        have hA2 := plus_ok o m w hp h8 j k (by omega) (by omega)
        have hp2 := had j k
        obtain ⟨q, eq⟩ : ∃ q, ad o j k = q := ⟨_, rfl⟩
        rw [eq] at hA2 hp2
        have rpk := hc.row hp1 (show k < w.length by omega)
        have riq := hc.row (show i < w.length by omega) hp2
        refine ats_skip ?_
        (repeat refine ats_seq ?_); refine ats_block ?_
        (repeat refine ats_seq ?_); refine ats_go (fix0 hcx) fun K hK => ?_; simp only [go_sem, seval]; refine hK _ ?_; clear hK K
        (repeat refine ats_seq ?_); refine ats_go (fix0 hcx) fun K hK => ?_; simp only [go_sem, seval]; refine hK _ ?_; clear hK K
        (repeat refine ats_seq ?_); refine ats_loop (fun l : Nat => ⟨[(1, .bptr 0 0), (3, .l3 w), (4, .int i), (5, .int j), (6, .int k), (12, .int w.length), (13, .int i), (17, .int w.length), (18, .int j), (22, .int w.length), (23, .int k), (27, .int w.length), (28, .int l)], [(0, .bx [.l1 o, .int m, .l3 w])]⟩) (fun l => l ≤ w.length ∧ ∀ b, b < l → cfG o m w i j k b = none) (fun l => w.length - l) 0 ⟨Nat.zero_le _, fun a h => absurd h (Nat.not_lt_zero a)⟩ (by refine And.intro ?_ rfl; simp only [SlotsLe, St.get, slotGet, Nat.reduceEqDiff, ↓reduceIte, AV.int.injEq, AV.bool.injEq, AV.l1.injEq, AV.l2.injEq, AV.l3.injEq, true_and, and_true]; rfl) (fun l hl => ?_); obtain ⟨hl, Hl⟩ := hl
        (repeat refine ats_seq ?_); refine ats_go (fix0 hcx) fun K hK => ?_; simp only [go_sem, seval]; refine hK _ ?_; clear hK K
        (repeat refine ats_seq ?_); first | refine ats_ifn (p := _) rfl trivial (fun hll => ?_) (fun hll => ?_) | refine ats_ifp (p := _) rfl trivial (fun hll => ?_) (fun hll => ?_) | refine ats_cond rfl trivial (fun hll => ?_) (fun hll => ?_)
        · have hA3 := plus_ok o m w hp h8 k l (by omega) (by omega)
          have hp3 := had k l
          obtain ⟨r, er⟩ : ∃ r, ad o k l = r := ⟨_, rfl⟩
          rw [er] at hA3 hp3
          have v1 := hc.bd (i := j) (j := k) (k := l) (by omega) (by omega) (by omega)
          have v2 := hc.bd (i := p) (j := k) (k := l) (by omega) (by omega) (by omega)
          have v3 := hc.bd (i := i) (j := q) (k := l) (by omega) (by omega) (by omega)
          have v4 := hc.bd (i := i) (j := j) (k := r) (by omega) (by omega) (by omega)
          have v5 := hc.bd (i := i) (j := j) (k := k) (by omega) (by omega) (by omega)
          have ev : cfV o w i j k l = e3 w j k l - e3 w p k l + e3 w i q l - e3 w i j r + e3 w i j k := by unfold cfV; rw [ep, eq, er]
          have hR := rest_ok o m w (cfV o w i j k l) m1 m2
          simp only [e3] at v1 v2 v3 v4 v5 ev
          refine ats_skip ?_
          (repeat refine ats_seq ?_); refine ats_block ?_
          (repeat refine ats_seq ?_); refine ats_go (fix0 hcx) fun K hK => ?_; simp only [go_sem, seval]; refine hK _ ?_; clear hK K
          (repeat refine ats_seq ?_); refine ats_pick (fix0 hcx) mixed (by kernel_rfl) fun K hK => ?_; simp only [go_sem, seval]
          (repeat refine And.intro (by first | omega | (intro hq; first | omega | (simp at hq <;> omega) | (simp_all <;> omega))) ?_)
          first | refine fcall_data (hA1) rfl ?_ | refine YR_intro (acall_data (hA1) rfl) ?_
          simp only [go_sem, seval]
          (repeat refine And.intro (by first | omega | (intro hq; first | omega | (simp at hq <;> omega) | (simp_all <;> omega))) ?_)
          first | refine fcall_data (hA2) rfl ?_ | refine YR_intro (acall_data (hA2) rfl) ?_
          simp only [go_sem, seval]
          (repeat refine And.intro (by first | omega | (intro hq; first | omega | (simp at hq <;> omega) | (simp_all <;> omega))) ?_)
          first | refine fcall_data (hA3) rfl ?_ | refine YR_intro (acall_data (hA3) rfl) ?_
          simp only [go_sem, seval]
          (repeat refine And.intro (by first | omega | (intro hq; first | omega | (simp at hq <;> omega) | (simp_all <;> omega))) ?_)
          rw [← ev]
          refine hK _ ?_; clear hK K
          (repeat refine ats_seq ?_); refine ats_go (fix0 hcx) fun K hK => ?_; simp only [go_sem, seval]
          (repeat refine And.intro (by first | omega | (intro hq; first | omega | (simp at hq <;> omega) | (simp_all <;> omega))) ?_)
          first | refine fcall_data (hR) rfl ?_ | refine YR_intro (acall_data (hR) rfl) ?_
          simp only [go_sem, seval]
          (repeat refine And.intro (by first | omega | (intro hq; first | omega | (simp at hq <;> omega) | (simp_all <;> omega))) ?_)
          refine hK _ ?_; clear hK K
          (repeat refine ats_seq ?_); first | refine ats_ifn (p := _) rfl trivial (fun hne => ?_) (fun hne => ?_) | refine ats_ifp (p := _) rfl trivial (fun hne => ?_) (fun hne => ?_) | refine ats_cond rfl trivial (fun hne => ?_) (fun hne => ?_)
          · (repeat refine ats_seq ?_); refine ats_go (fix0 hcx) fun K hK => ?_; simp only [go_sem, seval]; (repeat refine And.intro (by first | omega | (intro hq; first | omega | (simp at hq <;> omega) | (simp_all <;> omega))) ?_); refine hK _ ?_; clear hK K
            have e : cfF o m w = some [(i : Int), (j : Int), (k : Int), (l : Int)] := first_some (by omega) Hi (first_some (by omega) Hj (first_some (by omega) Hk (first_some (by omega) Hl (if_pos hne))))
            exact ats_ret (finV rfl ⟨rfl, trivial⟩ (by rw [e]; rfl))
          · refine ats_skip ?_
            (repeat refine ats_seq ?_); refine ats_go (fix0 hcx) fun K hK => ?_; simp only [go_sem, seval]; (repeat refine And.intro (by first | omega | (intro hq; first | omega | (simp at hq <;> omega) | (simp_all <;> omega))) ?_); refine hK _ ?_; clear hK K
            refine ⟨l + 1, ⟨by omega, fun a ha => by rcases Nat.lt_succ_iff_lt_or_eq.1 ha with h | rfl; exact Hl a h; exact if_neg (fun h => h hne)⟩, by omega, .inl ⟨?_, rfl⟩⟩; simp only [SlotsLe, St.get, slotGet, Nat.reduceEqDiff, ↓reduceIte, AV.int.injEq, AV.bool.injEq, AV.l1.injEq, AV.l2.injEq, AV.l3.injEq, true_and, and_true]; omega
        · refine ats_exit (lq_x (ats_nil (bq_n ?_)))
          (repeat refine ats_seq ?_); refine ats_go (fix0 hcx) fun K hK => ?_; simp only [go_sem, seval]; (repeat refine And.intro (by first | omega | (intro hq; first | omega | (simp at hq <;> omega) | (simp_all <;> omega))) ?_); refine hK _ ?_; clear hK K
          refine ⟨k + 1, ⟨by omega, fun a ha => by rcases Nat.lt_succ_iff_lt_or_eq.1 ha with h | rfl; exact Hk a h; exact first_none (fun k hk => Hl k (by omega))⟩, by omega, .inl ⟨?_, rfl⟩⟩; simp only [SlotsLe, St.get, slotGet, Nat.reduceEqDiff, ↓reduceIte, AV.int.injEq, AV.bool.injEq, AV.l1.injEq, AV.l2.injEq, AV.l3.injEq, true_and, and_true]; omega
      · refine ats_exit (lq_x (ats_nil (bq_n ?_)))
        (repeat refine ats_seq ?_); refine ats_go (fix0 hcx) fun K hK => ?_; simp only [go_sem, seval]; (repeat refine And.intro (by first | omega | (intro hq; first | omega | (simp at hq <;> omega) | (simp_all <;> omega))) ?_); refine hK _ ?_; clear hK K
        refine ⟨j + 1, ⟨by omega, fun a ha => by rcases Nat.lt_succ_iff_lt_or_eq.1 ha with h | rfl; exact Hj a h; exact first_none (fun k hk => Hk k (by omega))⟩, by omega, .inl ⟨?_, rfl⟩⟩; simp only [SlotsLe, St.get, slotGet, Nat.reduceEqDiff, ↓reduceIte, AV.int.injEq, AV.bool.injEq, AV.l1.injEq, AV.l2.injEq, AV.l3.injEq, true_and, and_true]; omega
    · refine ats_exit (lq_x (ats_nil (bq_n ?_)))
      (repeat refine ats_seq ?_); refine ats_go (fix0 hcx) fun K hK => ?_; simp only [go_sem, seval]; (repeat refine And.intro (by first | omega | (intro hq; first | omega | (simp at hq <;> omega) | (simp_all <;> omega))) ?_); refine hK _ ?_; clear hK K
      refine ⟨i + 1, ⟨by omega, fun a ha => by rcases Nat.lt_succ_iff_lt_or_eq.1 ha with h | rfl; exact Hi a h; exact first_none (fun k hk => Hj k (by omega))⟩, by omega, .inl ⟨?_, rfl⟩⟩; simp only [SlotsLe, St.get, slotGet, Nat.reduceEqDiff, ↓reduceIte, AV.int.injEq, AV.bool.injEq, AV.l1.injEq, AV.l2.injEq, AV.l3.injEq, true_and, and_true]; omega
  · refine ats_exit (lq_x ?_)
    (repeat refine ats_seq ?_); refine ats_go (fix0 hcx) fun K hK => ?_; simp only [go_sem, seval]; refine hK _ ?_; clear hK K
    have e : cfF o m w = none := first_none (fun k hk => Hi k (by omega))
    exact ats_ret (finV rfl ⟨rfl, trivial⟩ (by rw [e]; rfl))
end Go.Proofs.Ytaijdhkjemffhaa
