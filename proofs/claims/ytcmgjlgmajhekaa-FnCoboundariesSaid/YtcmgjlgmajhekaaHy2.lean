import Derived.Test.YtcmgjlgmajhekaaHx1
import Derived.Test.YtcmgjlgmajhekaaHy1
import Derived.Test.YtcmgjlgmajhekaaWx3
import Derived.Test.YtcmgjlgmajhekaaPl6
import Derived.Test.YtcmgjlgmajhekaaLib6
import Derived.Test.YtcmgjlgmajhekaaWx4
set_option linter.unusedSimpArgs false
set_option linter.unusedVariables false
namespace Go.Proofs.Ytcmgjlgmajhekaa
open Go Go.Aw Go.Pl
set_option maxRecDepth 100000 in
set_option maxHeartbeats 8000000 in
theorem l17Fault_ok (o : List Int) (m : Int) (w : List (List (List Int))) (h : CocS o m w) : PureCall Try.prog 74 [.agg [.l1 o, .int m, .l3 w]] (optA (cfF o m w)) := by
 have n8 := h.n8
 have hp := h.1
 have h8 := h.2.1
 have m1 := h.2.2.1
 have m2 := h.2.2.2.1
 have hc := h.2.2.2.2.2
 have had := h.ad
 refine PureCall.intro (n := 115) (rs := [.tmp 2]) Try.call74 Try.func74 rfl rfl rfl (by simp only [List.length_cons, List.length_nil]; omega) (fun cx hcx => ats_of ?_); simp only [argSlots, Nat.zero_add, Nat.reduceAdd]
 refine gA ?_
 (repeat refine ats_seq ?_); refine ats_pick (fix0 hcx) mixed (by kernel_rfl) fun K hK => ?_; simp only [go_sem, seval]; (repeat refine aI (hb := ?_)); refine hK _ ?_; clear hK K
 refine gA ?_
 (repeat refine ats_seq ?_); refine ats_loop (fun i : Nat => ⟨[(1, .bptr 0 0), (3, .int w.length), (4, .l3 w), (5, .int i)], [(0, .bx [.l1 o, .int m, .l3 w])]⟩) (fun i => i ≤ w.length ∧ ∀ b, b < i → first w.length (fun y => first w.length fun z => first w.length (cfG o m w b y z)) = none) (fun i => w.length - i) 0 ⟨Nat.zero_le _, fun a h => absurd h (Nat.not_lt_zero a)⟩ (by refine And.intro ?_ rfl; simp only [leS, Nat.reduceEqDiff, ↓reduceIte, true_and, and_true]; rfl) (fun i hi => ?_); obtain ⟨hi, Hi⟩ := hi
 refine gA ?_
 refine gI (fun hli => ?_) fun hli => ?_
 ·have mi := hc.mat (show i < w.length by omega)
  refine ats_skip ?_
  (repeat refine ats_seq ?_); refine ats_block ?_
  refine gA ?_
  (repeat refine ats_seq ?_); refine ats_loop (fun j : Nat => ⟨[(1, .bptr 0 0), (3, .int w.length), (4, .l3 w), (5, .int i), (6, .int j)], [(0, .bx [.l1 o, .int m, .l3 w])]⟩) (fun j => j ≤ w.length ∧ ∀ b, b < j → first w.length (fun z => first w.length (cfG o m w i b z)) = none) (fun j => w.length - j) 0 ⟨Nat.zero_le _, fun a h => absurd h (Nat.not_lt_zero a)⟩ (by refine And.intro ?_ rfl; simp only [leS, Nat.reduceEqDiff, ↓reduceIte, true_and, and_true]; rfl) (fun j hj => ?_); obtain ⟨hj, Hj⟩ := hj
  refine gA ?_
  refine gI (fun hlj => ?_) fun hlj => ?_
  ·have mj := hc.mat (show j < w.length by omega)
   have rij := hc.row (show i < w.length by omega) (show j < w.length by omega)
   have hA1 := l06Add_ok o hp h8 i j (by omega) (by omega)
   have hp1 := had i j
   obtain ⟨p, ep⟩ : ∃ p, ad o i j = p := ⟨_, rfl⟩
   rw [ep] at hA1 hp1
   have mp := hc.mat hp1
   refine ats_skip ?_
   (repeat refine ats_seq ?_); refine ats_block ?_
   refine gA ?_
   (repeat refine ats_seq ?_); refine ats_loop (fun k : Nat => ⟨[(1, .bptr 0 0), (3, .int w.length), (4, .l3 w), (5, .int i), (6, .int j), (7, .int k)], [(0, .bx [.l1 o, .int m, .l3 w])]⟩) (fun k => k ≤ w.length ∧ ∀ b, b < k → first w.length (cfG o m w i j b) = none) (fun k => w.length - k) 0 ⟨Nat.zero_le _, fun a h => absurd h (Nat.not_lt_zero a)⟩ (by refine And.intro ?_ rfl; simp only [leS, Nat.reduceEqDiff, ↓reduceIte, true_and, and_true]; rfl) (fun k hk => ?_); obtain ⟨hk, Hk⟩ := hk
   refine gA ?_
   refine gI (fun hlk => ?_) fun hlk => ?_
   ·have rjk := hc.row (show j < w.length by omega) (show k < w.length by omega)
    have hA2 := l06Add_ok o hp h8 j k (by omega) (by omega)
    have hp2 := had j k
    obtain ⟨q, eq⟩ : ∃ q, ad o j k = q := ⟨_, rfl⟩
    rw [eq] at hA2 hp2
    have rpk := hc.row hp1 (show k < w.length by omega)
    have riq := hc.row (show i < w.length by omega) hp2
    refine ats_skip ?_
    (repeat refine ats_seq ?_); refine ats_block ?_
    refine gA ?_
    (repeat refine ats_seq ?_); refine ats_loop (fun l : Nat => ⟨[(1, .bptr 0 0), (3, .int w.length), (4, .l3 w), (5, .int i), (6, .int j), (7, .int k), (8, .int l)], [(0, .bx [.l1 o, .int m, .l3 w])]⟩) (fun l => l ≤ w.length ∧ ∀ b, b < l → cfG o m w i j k b = none) (fun l => w.length - l) 0 ⟨Nat.zero_le _, fun a h => absurd h (Nat.not_lt_zero a)⟩ (by refine And.intro ?_ rfl; simp only [leS, Nat.reduceEqDiff, ↓reduceIte, true_and, and_true]; rfl) (fun l hl => ?_); obtain ⟨hl, Hl⟩ := hl
    refine gA ?_
    refine gI (fun hll => ?_) fun hll => ?_
    ·have hA3 := l06Add_ok o hp h8 k l (by omega) (by omega)
     have hp3 := had k l
     obtain ⟨r, er⟩ : ∃ r, ad o k l = r := ⟨_, rfl⟩
     rw [er] at hA3 hp3
     have v1 := hc.bd (i := j) (j := k) (k := l) (by omega) (by omega) (by omega)
     have v2 := hc.bd (i := p) (j := k) (k := l) (by omega) (by omega) (by omega)
     have v3 := hc.bd (i := i) (j := q) (k := l) (by omega) (by omega) (by omega)
     have v4 := hc.bd (i := i) (j := j) (k := r) (by omega) (by omega) (by omega)
     have v5 := hc.bd (i := i) (j := j) (k := k) (by omega) (by omega) (by omega)
     have ev : cfV o w i j k l = e3 w j k l - e3 w p k l + e3 w i q l - e3 w i j r + e3 w i j k := by unfold cfV; rw [ep, eq, er]
     simp only [e3] at v1 v2 v3 v4 v5 ev
     have bt : -m < (cfV o w i j k l).tmod m ∧ (cfV o w i j k l).tmod m < m := by
      refine ⟨?_, Int.tmod_lt_of_pos _ (by omega)⟩
      have := Int.tmod_lt_of_pos (-(cfV o w i j k l)) (show 0 < m by omega)
      rw [Int.neg_tmod] at this
      omega
     rw [ev] at bt
     refine ats_skip ?_
     (repeat refine ats_seq ?_); refine ats_block ?_
     (repeat refine ats_seq ?_); refine ats_pick (fix0 hcx) mixed (by kernel_rfl) fun K hK => ?_; simp only [go_sem, seval]
     (repeat refine aI (hb := ?_))
     first | refine fcall_data (hA1) rfl ?_ | refine YR_intro (acall_data (hA1) rfl) ?_
     simp only [go_sem, seval]
     (repeat refine aI (hb := ?_))
     first | refine fcall_data (hA2) rfl ?_ | refine YR_intro (acall_data (hA2) rfl) ?_
     simp only [go_sem, seval]
     (repeat refine aI (hb := ?_))
     first | refine fcall_data (hA3) rfl ?_ | refine YR_intro (acall_data (hA3) rfl) ?_
     simp only [go_sem, seval]
     (repeat refine aI (hb := ?_))
     refine hK _ ?_; clear hK K
     (repeat refine ats_seq ?_); refine ats_pick (fix0 hcx) mixed (by kernel_rfl) fun K hK => ?_; simp only [go_sem, seval]; (repeat refine aI (hb := ?_)); refine hK _ ?_; clear hK K
     refine gI (fun hne => ?_) fun hne => ?_
     ·refine gB ?_
      rw [← ev] at hne
      have e : cfF o m w = some [(i : Int), (j : Int), (k : Int), (l : Int)] := first_some (by omega) Hi (first_some (by omega) Hj (first_some (by omega) Hk (first_some (by omega) Hl (if_pos (fun h => hne (tmod_zero.2 h))))))
      exact ats_ret (finV rfl ⟨rfl, trivial⟩ (by rw [e]; rfl))
     ·rw [← ev] at hne
      refine ats_skip ?_
      refine gB ?_
      refine ⟨l + 1, ⟨by omega, fun a ha => by rcases Nat.lt_succ_iff_lt_or_eq.1 ha with h | rfl; exact Hl a h; exact if_neg (fun h => h (tmod_zero.1 hne))⟩, by omega, .inl ⟨?_, rfl⟩⟩; simp only [leS, Nat.reduceEqDiff, ↓reduceIte, true_and, and_true]; omega
    ·refine ats_exit (lq_x (ats_nil (bq_n ?_)))
     refine gB ?_
     refine ⟨k + 1, ⟨by omega, fun a ha => by rcases Nat.lt_succ_iff_lt_or_eq.1 ha with h | rfl; exact Hk a h; exact first_none (fun k hk => Hl k (by omega))⟩, by omega, .inl ⟨?_, rfl⟩⟩; simp only [leS, Nat.reduceEqDiff, ↓reduceIte, true_and, and_true]; omega
   ·refine ats_exit (lq_x (ats_nil (bq_n ?_)))
    refine gB ?_
    refine ⟨j + 1, ⟨by omega, fun a ha => by rcases Nat.lt_succ_iff_lt_or_eq.1 ha with h | rfl; exact Hj a h; exact first_none (fun k hk => Hk k (by omega))⟩, by omega, .inl ⟨?_, rfl⟩⟩; simp only [leS, Nat.reduceEqDiff, ↓reduceIte, true_and, and_true]; omega
  ·refine ats_exit (lq_x (ats_nil (bq_n ?_)))
   refine gB ?_
   refine ⟨i + 1, ⟨by omega, fun a ha => by rcases Nat.lt_succ_iff_lt_or_eq.1 ha with h | rfl; exact Hi a h; exact first_none (fun k hk => Hj k (by omega))⟩, by omega, .inl ⟨?_, rfl⟩⟩; simp only [leS, Nat.reduceEqDiff, ↓reduceIte, true_and, and_true]; omega
 ·refine ats_exit (lq_x ?_)
  refine gA ?_
  have e : cfF o m w = none := first_none (fun k hk => Hi k (by omega))
  exact ats_ret (finV rfl ⟨rfl, trivial⟩ (by rw [e]; rfl))
set_option maxRecDepth 100000 in
set_option maxHeartbeats 8000000 in
theorem cfault_ok (o : List Int) (m : Int) (w : List (List (List Int))) (h : CocS o m w) : PureCall Try.prog 43 [.agg [.l1 o, .int m, .l3 w]] (optA (cfF o m w)) := by
 have n8 := h.n8
 have hp := h.1
 have h8 := h.2.1
 have m1 := h.2.2.1
 have m2 := h.2.2.2.1
 have hc := h.2.2.2.2.2
 have had := h.ad
 refine PureCall.intro (n := 107) (rs := [.tmp 2]) Try.call43 Try.func43 rfl rfl rfl (by simp only [List.length_cons, List.length_nil]; omega) (fun cx hcx => ats_of ?_); simp only [argSlots, Nat.zero_add, Nat.reduceAdd]
 refine gA ?_
 refine gB ?_
 refine gA ?_
 (repeat refine ats_seq ?_); refine ats_loop (fun i : Nat => ⟨[(1, .bptr 0 0), (3, .l3 w), (12, .int w.length), (13, .int i)], [(0, .bx [.l1 o, .int m, .l3 w])]⟩) (fun i => i ≤ w.length ∧ ∀ b, b < i → first w.length (fun y => first w.length fun z => first w.length (cfG o m w b y z)) = none) (fun i => w.length - i) 0 ⟨Nat.zero_le _, fun a h => absurd h (Nat.not_lt_zero a)⟩ (by refine And.intro ?_ rfl; simp only [leS, Nat.reduceEqDiff, ↓reduceIte, true_and, and_true]; rfl) (fun i hi => ?_); obtain ⟨hi, Hi⟩ := hi
 refine gA ?_
 refine gI (fun hli => ?_) fun hli => ?_
 ·have mi := hc.mat (show i < w.length by omega)
  refine ats_skip ?_
  (repeat refine ats_seq ?_); refine ats_block ?_
  refine gA ?_
  refine gA ?_
  (repeat refine ats_seq ?_); refine ats_loop (fun j : Nat => ⟨[(1, .bptr 0 0), (3, .l3 w), (4, .int i), (12, .int w.length), (13, .int i), (17, .int w.length), (18, .int j)], [(0, .bx [.l1 o, .int m, .l3 w])]⟩) (fun j => j ≤ w.length ∧ ∀ b, b < j → first w.length (fun z => first w.length (cfG o m w i b z)) = none) (fun j => w.length - j) 0 ⟨Nat.zero_le _, fun a h => absurd h (Nat.not_lt_zero a)⟩ (by refine And.intro ?_ rfl; simp only [leS, Nat.reduceEqDiff, ↓reduceIte, true_and, and_true]; rfl) (fun j hj => ?_); obtain ⟨hj, Hj⟩ := hj
  refine gA ?_
  refine gI (fun hlj => ?_) fun hlj => ?_
  ·have mj := hc.mat (show j < w.length by omega)
   have rij := hc.row (show i < w.length by omega) (show j < w.length by omega)
   have hA1 := plus_ok o m w hp h8 i j (by omega) (by omega)
   have hp1 := had i j
   obtain ⟨p, ep⟩ : ∃ p, ad o i j = p := ⟨_, rfl⟩
   rw [ep] at hA1 hp1
   have mp := hc.mat hp1
   refine ats_skip ?_
   (repeat refine ats_seq ?_); refine ats_block ?_
   refine gA ?_
   refine gA ?_
   (repeat refine ats_seq ?_); refine ats_loop (fun k : Nat => ⟨[(1, .bptr 0 0), (3, .l3 w), (4, .int i), (5, .int j), (12, .int w.length), (13, .int i), (17, .int w.length), (18, .int j), (22, .int w.length), (23, .int k)], [(0, .bx [.l1 o, .int m, .l3 w])]⟩) (fun k => k ≤ w.length ∧ ∀ b, b < k → first w.length (cfG o m w i j b) = none) (fun k => w.length - k) 0 ⟨Nat.zero_le _, fun a h => absurd h (Nat.not_lt_zero a)⟩ (by refine And.intro ?_ rfl; simp only [leS, Nat.reduceEqDiff, ↓reduceIte, true_and, and_true]; rfl) (fun k hk => ?_); obtain ⟨hk, Hk⟩ := hk
   refine gA ?_
   refine gI (fun hlk => ?_) fun hlk => ?_
   ·have rjk := hc.row (show j < w.length by omega) (show k < w.length by omega)
    have hA2 := plus_ok o m w hp h8 j k (by omega) (by omega)
    have hp2 := had j k
    obtain ⟨q, eq⟩ : ∃ q, ad o j k = q := ⟨_, rfl⟩
    rw [eq] at hA2 hp2
    have rpk := hc.row hp1 (show k < w.length by omega)
    have riq := hc.row (show i < w.length by omega) hp2
    refine ats_skip ?_
    (repeat refine ats_seq ?_); refine ats_block ?_
    refine gA ?_
    refine gA ?_
    (repeat refine ats_seq ?_); refine ats_loop (fun l : Nat => ⟨[(1, .bptr 0 0), (3, .l3 w), (4, .int i), (5, .int j), (6, .int k), (12, .int w.length), (13, .int i), (17, .int w.length), (18, .int j), (22, .int w.length), (23, .int k), (27, .int w.length), (28, .int l)], [(0, .bx [.l1 o, .int m, .l3 w])]⟩) (fun l => l ≤ w.length ∧ ∀ b, b < l → cfG o m w i j k b = none) (fun l => w.length - l) 0 ⟨Nat.zero_le _, fun a h => absurd h (Nat.not_lt_zero a)⟩ (by refine And.intro ?_ rfl; simp only [leS, Nat.reduceEqDiff, ↓reduceIte, true_and, and_true]; rfl) (fun l hl => ?_); obtain ⟨hl, Hl⟩ := hl
    refine gA ?_
    refine gI (fun hll => ?_) fun hll => ?_
    ·have hA3 := plus_ok o m w hp h8 k l (by omega) (by omega)
     have hp3 := had k l
     obtain ⟨r, er⟩ : ∃ r, ad o k l = r := ⟨_, rfl⟩
     rw [er] at hA3 hp3
     have v1 := hc.bd (i := j) (j := k) (k := l) (by omega) (by omega) (by omega)
     have v2 := hc.bd (i := p) (j := k) (k := l) (by omega) (by omega) (by omega)
     have v3 := hc.bd (i := i) (j := q) (k := l) (by omega) (by omega) (by omega)
     have v4 := hc.bd (i := i) (j := j) (k := r) (by omega) (by omega) (by omega)
     have v5 := hc.bd (i := i) (j := j) (k := k) (by omega) (by omega) (by omega)
     have ev : cfV o w i j k l = e3 w j k l - e3 w p k l + e3 w i q l - e3 w i j r + e3 w i j k := by unfold cfV; rw [ep, eq, er]
     have hR := rest_ok o m w (cfV o w i j k l) m1 m2
     simp only [e3] at v1 v2 v3 v4 v5 ev
     refine ats_skip ?_
     (repeat refine ats_seq ?_); refine ats_block ?_
     refine gA ?_
     (repeat refine ats_seq ?_); refine ats_pick (fix0 hcx) mixed (by kernel_rfl) fun K hK => ?_; simp only [go_sem, seval]
     (repeat refine aI (hb := ?_))
     first | refine fcall_data (hA1) rfl ?_ | refine YR_intro (acall_data (hA1) rfl) ?_
     simp only [go_sem, seval]
     (repeat refine aI (hb := ?_))
     first | refine fcall_data (hA2) rfl ?_ | refine YR_intro (acall_data (hA2) rfl) ?_
     simp only [go_sem, seval]
     (repeat refine aI (hb := ?_))
     first | refine fcall_data (hA3) rfl ?_ | refine YR_intro (acall_data (hA3) rfl) ?_
     simp only [go_sem, seval]
     (repeat refine aI (hb := ?_))
     rw [← ev]
     refine hK _ ?_; clear hK K
     refine gC fun K hK => ?_
     (repeat refine aI (hb := ?_))
     first | refine fcall_data (hR) rfl ?_ | refine YR_intro (acall_data (hR) rfl) ?_
     simp only [go_sem, seval]
     (repeat refine aI (hb := ?_))
     refine hK _ ?_; clear hK K
     refine gI (fun hne => ?_) fun hne => ?_
     ·refine gB ?_
      have e : cfF o m w = some [(i : Int), (j : Int), (k : Int), (l : Int)] := first_some (by omega) Hi (first_some (by omega) Hj (first_some (by omega) Hk (first_some (by omega) Hl (if_pos hne))))
      exact ats_ret (finV rfl ⟨rfl, trivial⟩ (by rw [e]; rfl))
     ·refine ats_skip ?_
      refine gB ?_
      refine ⟨l + 1, ⟨by omega, fun a ha => by rcases Nat.lt_succ_iff_lt_or_eq.1 ha with h | rfl; exact Hl a h; exact if_neg (fun h => h hne)⟩, by omega, .inl ⟨?_, rfl⟩⟩; simp only [leS, Nat.reduceEqDiff, ↓reduceIte, true_and, and_true]; omega
    ·refine ats_exit (lq_x (ats_nil (bq_n ?_)))
     refine gB ?_
     refine ⟨k + 1, ⟨by omega, fun a ha => by rcases Nat.lt_succ_iff_lt_or_eq.1 ha with h | rfl; exact Hk a h; exact first_none (fun k hk => Hl k (by omega))⟩, by omega, .inl ⟨?_, rfl⟩⟩; simp only [leS, Nat.reduceEqDiff, ↓reduceIte, true_and, and_true]; omega
   ·refine ats_exit (lq_x (ats_nil (bq_n ?_)))
    refine gB ?_
    refine ⟨j + 1, ⟨by omega, fun a ha => by rcases Nat.lt_succ_iff_lt_or_eq.1 ha with h | rfl; exact Hj a h; exact first_none (fun k hk => Hk k (by omega))⟩, by omega, .inl ⟨?_, rfl⟩⟩; simp only [leS, Nat.reduceEqDiff, ↓reduceIte, true_and, and_true]; omega
  ·refine ats_exit (lq_x (ats_nil (bq_n ?_)))
   refine gB ?_
   refine ⟨i + 1, ⟨by omega, fun a ha => by rcases Nat.lt_succ_iff_lt_or_eq.1 ha with h | rfl; exact Hi a h; exact first_none (fun k hk => Hj k (by omega))⟩, by omega, .inl ⟨?_, rfl⟩⟩; simp only [leS, Nat.reduceEqDiff, ↓reduceIte, true_and, and_true]; omega
 ·refine ats_exit (lq_x ?_)
  refine gA ?_
  have e : cfF o m w = none := first_none (fun k hk => Hi k (by omega))
  exact ats_ret (finV rfl ⟨rfl, trivial⟩ (by rw [e]; rfl))
end Go.Proofs.Ytcmgjlgmajhekaa
namespace Go.Proofs.Ytcmgjlgmajhekaa
open Go Go.Aw Go.Pl
theorem l17Is_ok (o : List Int) (m : Int) (w : List (List (List Int))) : PureCall Try.prog 45 [.agg [.l1 o, .int m, .l3 w]] (.bool (isCoc o m w)) := by
 have hS := l17Shape_ok o m w
 unfold isCoc
 by_cases h : CocS o m w
 ·have hN := l17Normal_ok o m w h
  have hF := l17Fault_ok o m w h
  rw [bd_true h] at hS
  by_cases hn : NormW w
  ·rw [bd_true hn] at hN
   cases hf : cfF o m w with
   | none =>
    have e : bd (CocOk o m w) = true := bd_true ⟨h, hn, hf⟩
    rw [hf] at hF
    simp only [optA] at hF
    refine PureCall.intro (n := 15) (rs := [.tmp 2]) Try.call45 Try.func45 rfl rfl rfl (by simp only [List.length_cons, List.length_nil]; omega) (fun cx hcx => ats_of ?_); simp only [argSlots, Nat.zero_add, Nat.reduceAdd]
    refine gA ?_
    refine gC fun K hK => ?_
    first | refine fcall_data (hS) rfl ?_ | refine YR_intro (acall_data (hS) rfl) ?_
    simp only [go_sem, seval]
    (repeat refine aI (hb := ?_))
    first | refine fcall_data (hN) rfl ?_ | refine YR_intro (acall_data (hN) rfl) ?_
    simp only [go_sem, seval]
    (repeat refine aI (hb := ?_))
    first | refine fcall_data (hF) rfl ?_ | refine YR_intro (acall_data (hF) rfl) ?_
    simp only [go_sem, seval]
    (repeat refine aI (hb := ?_))
    refine hK _ ?_; clear hK K
    refine ats_ret (finB rfl ?_)
    rw [e]; rfl
   | some v =>
    have e : bd (CocOk o m w) = false := bd_false (fun h => by have := h.2.2; rw [hf] at this; cases this)
    have hl : (v.length : Int) ≠ 0 := by
     have hv := hf
     unfold cfF at hv
     have : v.length = 4 := first_all (P := fun v => v.length = 4) hv fun x u hx => first_all (P := fun v => v.length = 4) hx fun y u hy => first_all (P := fun v => v.length = 4) hy fun z u hz => first_all (P := fun v => v.length = 4) hz fun t u ht => by
      unfold cfG at ht
      split at ht <;> cases ht
      rfl
     omega
    rw [hf] at hF
    simp only [optA] at hF
    refine PureCall.intro (n := 15) (rs := [.tmp 2]) Try.call45 Try.func45 rfl rfl rfl (by simp only [List.length_cons, List.length_nil]; omega) (fun cx hcx => ats_of ?_); simp only [argSlots, Nat.zero_add, Nat.reduceAdd]
    refine gA ?_
    refine gC fun K hK => ?_
    first | refine fcall_data (hS) rfl ?_ | refine YR_intro (acall_data (hS) rfl) ?_
    simp only [go_sem, seval]
    (repeat refine aI (hb := ?_))
    first | refine fcall_data (hN) rfl ?_ | refine YR_intro (acall_data (hN) rfl) ?_
    simp only [go_sem, seval]
    (repeat refine aI (hb := ?_))
    first | refine fcall_data (hF) rfl ?_ | refine YR_intro (acall_data (hF) rfl) ?_
    simp only [go_sem, seval]
    (repeat refine aI (hb := ?_))
    refine hK _ ?_; clear hK K
    refine ats_ret (finB rfl ?_)
    rw [e]
    simpa using hl
  ·rw [bd_false hn] at hN
   have e : bd (CocOk o m w) = false := bd_false (fun h => hn h.2.1)
   refine PureCall.intro (n := 15) (rs := [.tmp 2]) Try.call45 Try.func45 rfl rfl rfl (by simp only [List.length_cons, List.length_nil]; omega) (fun cx hcx => ats_of ?_); simp only [argSlots, Nat.zero_add, Nat.reduceAdd]
   refine gA ?_
   refine gC fun K hK => ?_
   first | refine fcall_data (hS) rfl ?_ | refine YR_intro (acall_data (hS) rfl) ?_
   simp only [go_sem, seval]
   (repeat refine aI (hb := ?_))
   first | refine fcall_data (hN) rfl ?_ | refine YR_intro (acall_data (hN) rfl) ?_
   simp only [go_sem, seval]
   (repeat refine aI (hb := ?_))
   refine YR_intro (v := .nil) (by first | trivial | (intro h; cases h)) ?_
   simp only [go_sem, seval]
   refine hK _ ?_; clear hK K
   refine ats_ret (finB rfl ?_)
   rw [e]
 ·rw [bd_false h] at hS
  have e : bd (CocOk o m w) = false := bd_false (fun h' => h h'.1)
  refine PureCall.intro (n := 15) (rs := [.tmp 2]) Try.call45 Try.func45 rfl rfl rfl (by simp only [List.length_cons, List.length_nil]; omega) (fun cx hcx => ats_of ?_); simp only [argSlots, Nat.zero_add, Nat.reduceAdd]
  refine gA ?_
  refine gC fun K hK => ?_
  first | refine fcall_data (hS) rfl ?_ | refine YR_intro (acall_data (hS) rfl) ?_
  simp only [go_sem, seval]
  (repeat refine aI (hb := ?_))
  refine YR_intro (v := .bool false) (by first | trivial | (intro h; cases h)) ?_
  simp only [go_sem, seval]
  refine YR_intro (v := .nil) (by first | trivial | (intro h; cases h)) ?_
  simp only [go_sem, seval]
  refine hK _ ?_; clear hK K
  refine ats_ret (finB rfl ?_)
  rw [e]
theorem IsCocycle_ok (o : List Int) (m : Int) (w : List (List (List Int))) : PureCall Try.prog 13 [.agg [.l1 o, .int m, .l3 w]] (.bool (isCoc o m w)) := by
 have hS := isCochain_ok o m w
 unfold isCoc
 by_cases h : CocS o m w
 ·have hN := isNormalised_ok o m w h
  have hF := cfault_ok o m w h
  rw [bd_true h] at hS
  by_cases hn : NormW w
  ·rw [bd_true hn] at hN
   cases hf : cfF o m w with
   | none =>
    have e : bd (CocOk o m w) = true := bd_true ⟨h, hn, hf⟩
    rw [hf] at hF
    simp only [optA] at hF
    refine PureCall.intro (n := 14) (rs := [.tmp 2]) Try.call13 Try.func13 rfl rfl rfl (by simp only [List.length_cons, List.length_nil]; omega) (fun cx hcx => ats_of ?_); simp only [argSlots, Nat.zero_add, Nat.reduceAdd]
    refine gA ?_
    refine gC fun K hK => ?_
    first | refine fcall_data (hS) rfl ?_ | refine YR_intro (acall_data (hS) rfl) ?_
    simp only [go_sem, seval]
    (repeat refine aI (hb := ?_))
    first | refine fcall_data (hN) rfl ?_ | refine YR_intro (acall_data (hN) rfl) ?_
    simp only [go_sem, seval]
    (repeat refine aI (hb := ?_))
    first | refine fcall_data (hF) rfl ?_ | refine YR_intro (acall_data (hF) rfl) ?_
    simp only [go_sem, seval]
    (repeat refine aI (hb := ?_))
    refine hK _ ?_; clear hK K
    refine ats_ret (finB rfl ?_)
    rw [e]
   | some v =>
    have e : bd (CocOk o m w) = false := bd_false (fun h => by have := h.2.2; rw [hf] at this; cases this)
    have hl : 0 < v.length := by
     have hv := hf
     unfold cfF at hv
     have : v.length = 4 := first_all (P := fun v => v.length = 4) hv fun x u hx => first_all (P := fun v => v.length = 4) hx fun y u hy => first_all (P := fun v => v.length = 4) hy fun z u hz => first_all (P := fun v => v.length = 4) hz fun t u ht => by
      unfold cfG at ht
      split at ht <;> cases ht
      rfl
     omega
    rw [hf] at hF
    simp only [optA] at hF
    refine PureCall.intro (n := 14) (rs := [.tmp 2]) Try.call13 Try.func13 rfl rfl rfl (by simp only [List.length_cons, List.length_nil]; omega) (fun cx hcx => ats_of ?_); simp only [argSlots, Nat.zero_add, Nat.reduceAdd]
    refine gA ?_
    refine gC fun K hK => ?_
    first | refine fcall_data (hS) rfl ?_ | refine YR_intro (acall_data (hS) rfl) ?_
    simp only [go_sem, seval]
    (repeat refine aI (hb := ?_))
    first | refine fcall_data (hN) rfl ?_ | refine YR_intro (acall_data (hN) rfl) ?_
    simp only [go_sem, seval]
    (repeat refine aI (hb := ?_))
    first | refine fcall_data (hF) rfl ?_ | refine YR_intro (acall_data (hF) rfl) ?_
    simp only [go_sem, seval]
    (repeat refine aI (hb := ?_))
    refine hK _ ?_; clear hK K
    refine ats_ret (finB rfl ?_)
    rw [e]
  ·rw [bd_false hn] at hN
   have e : bd (CocOk o m w) = false := bd_false (fun h => hn h.2.1)
   refine PureCall.intro (n := 14) (rs := [.tmp 2]) Try.call13 Try.func13 rfl rfl rfl (by simp only [List.length_cons, List.length_nil]; omega) (fun cx hcx => ats_of ?_); simp only [argSlots, Nat.zero_add, Nat.reduceAdd]
   refine gA ?_
   refine gC fun K hK => ?_
   first | refine fcall_data (hS) rfl ?_ | refine YR_intro (acall_data (hS) rfl) ?_
   simp only [go_sem, seval]
   (repeat refine aI (hb := ?_))
   first | refine fcall_data (hN) rfl ?_ | refine YR_intro (acall_data (hN) rfl) ?_
   simp only [go_sem, seval]
   (repeat refine aI (hb := ?_))
   refine YR_intro (v := .nil) (by first | trivial | (intro h; cases h)) ?_
   simp only [go_sem, seval]
   refine hK _ ?_; clear hK K
   refine ats_ret (finB rfl ?_)
   rw [e]
 ·rw [bd_false h] at hS
  have e : bd (CocOk o m w) = false := bd_false (fun h' => h h'.1)
  refine PureCall.intro (n := 14) (rs := [.tmp 2]) Try.call13 Try.func13 rfl rfl rfl (by simp only [List.length_cons, List.length_nil]; omega) (fun cx hcx => ats_of ?_); simp only [argSlots, Nat.zero_add, Nat.reduceAdd]
  refine gA ?_
  refine gC fun K hK => ?_
  first | refine fcall_data (hS) rfl ?_ | refine YR_intro (acall_data (hS) rfl) ?_
  simp only [go_sem, seval]
  (repeat refine aI (hb := ?_))
  refine YR_intro (v := .bool false) (by first | trivial | (intro h; cases h)) ?_
  simp only [go_sem, seval]
  refine YR_intro (v := .nil) (by first | trivial | (intro h; cases h)) ?_
  simp only [go_sem, seval]
  refine hK _ ?_; clear hK K
  refine ats_ret (finB rfl ?_)
  rw [e]
set_option maxHeartbeats 2000000 in
theorem l17Pairing_ok (n : Nat) (m : Int) (c : List (List Int)) (h8 : n ≤ 8) (m1 : 1 ≤ m) (m2 : m ≤ 1000) : PureCall Try.prog 31 [.int n, .int m, .l2 c] (.bool (bd (PairB n m c))) := by
 refine PureCall.intro (n := 59) (rs := [.tmp 6]) Try.call31 Try.func31 rfl rfl rfl (by simp only [List.length_cons, List.length_nil]; omega) (fun cx hcx => ats_of ?_); simp only [argSlots, Nat.zero_add, Nat.reduceAdd]
 refine gB ?_
 refine gB ?_
 refine gI (fun h1 => ?_) fun h1 => ?_
 ·refine gB ?_
  refine ats_ret (finB rfl ?_)
  exact (bd_false (fun h => by have := h.1.1; omega)).symm
 ·have lc : c.length = n := by omega
  refine ats_skip ?_
  refine gB ?_
  (repeat refine ats_seq ?_); refine ats_loop (fun i : Nat => ⟨[(0, .int n), (1, .int m), (2, .l2 c), (7, .int i)], []⟩) (fun i => i ≤ n ∧ ∀ b, b < i → RowB n m (c.getD b []) ∧ ∀ y, y < n → b = 0 ∨ y = 0 → e2 c b y = 0) (fun i => n - i) 0 ⟨Nat.zero_le _, fun a h => absurd h (Nat.not_lt_zero a)⟩ (by refine And.intro ?_ rfl; simp only [leS, Nat.reduceEqDiff, ↓reduceIte, true_and, and_true]; rfl) (fun i hi => ?_); obtain ⟨hi, Hi⟩ := hi
  refine gB ?_
  refine gI (fun h2 => ?_) fun h2 => ?_
  ·refine ats_skip ?_
   (repeat refine ats_seq ?_); refine ats_block ?_
   refine gB ?_
   refine gI (fun h3 => ?_) fun h3 => ?_
   ·refine gB ?_
    refine ats_ret (finB rfl ?_)
    exact (bd_false (fun h => by have := (h.1.2 i (by omega)).1; omega)).symm
   ·refine ats_skip ?_
    refine gB ?_
    (repeat refine ats_seq ?_); refine ats_loop (fun j : Nat => ⟨[(0, .int n), (1, .int m), (2, .l2 c), (7, .int i), (8, .int j)], []⟩) (fun j => j ≤ n ∧ ∀ b, b < j → (0 ≤ e2 c i b ∧ e2 c i b ≤ m - 1) ∧ (i = 0 ∨ b = 0 → e2 c i b = 0)) (fun j => n - j) 0 ⟨Nat.zero_le _, fun a h => absurd h (Nat.not_lt_zero a)⟩ (by refine And.intro ?_ rfl; simp only [leS, Nat.reduceEqDiff, ↓reduceIte, true_and, and_true]; rfl) (fun j hj => ?_); obtain ⟨hj, Hj⟩ := hj
    refine gB ?_
    refine gI (fun h4 => ?_) fun h4 => ?_
    ·refine ats_skip ?_
     (repeat refine ats_seq ?_); refine ats_block ?_
     refine gC fun K hK => ?_
     (repeat refine aI (hb := ?_))
     first | refine fcall_data (l01In_ok ((c.getD i []).getD j 0) 0 (m - 1)) rfl ?_ | refine YR_intro (acall_data (l01In_ok ((c.getD i []).getD j 0) 0 (m - 1)) rfl) ?_
     simp only [go_sem, seval]
     (repeat refine aI (hb := ?_))
     refine hK _ ?_; clear hK K
     refine gI (fun h5 => ?_) fun h5 => ?_
     ·refine gB ?_
      refine ats_ret (finB rfl ?_)
      refine (bd_false (fun h => ?_)).symm
      have a1 := h.1.bd (j := i) (k := j) (by omega) (by omega)
      have a2 := h.2 i (by omega)
      have a3 := h.2 j (by omega)
      simp only [e2] at a1 a2 a3
      simp [-List.getD_eq_getElem?_getD] at h5
      rcases h5 with h5 | ⟨rfl | rfl, h5⟩
      ·omega
      ·exact h5 a3.1
      ·exact h5 a2.2
     ·have hb : (0 ≤ e2 c i j ∧ e2 c i j ≤ m - 1) ∧ (i = 0 ∨ j = 0 → e2 c i j = 0) := by
       simp [-List.getD_eq_getElem?_getD] at h5
       simp only [e2]
       exact ⟨h5.1, fun h => h5.2 (by omega)⟩
      refine ats_skip ?_
      refine gB ?_
      refine ⟨j + 1, ⟨by omega, fun a ha => by rcases Nat.lt_succ_iff_lt_or_eq.1 ha with h | rfl; exact Hj a h; exact hb⟩, by omega, .inl ⟨?_, rfl⟩⟩; simp only [leS, Nat.reduceEqDiff, ↓reduceIte, true_and, and_true]; omega
    ·refine ats_exit (lq_x (ats_nil (bq_n ?_)))
     refine gB ?_
     refine ⟨i + 1, ⟨by omega, fun a ha => by rcases Nat.lt_succ_iff_lt_or_eq.1 ha with h | rfl; exact Hi a h; exact ⟨⟨by omega, fun k hk => (Hj k (by omega)).1⟩, fun y hy => (Hj y (by omega)).2⟩⟩, by omega, .inl ⟨?_, rfl⟩⟩; simp only [leS, Nat.reduceEqDiff, ↓reduceIte, true_and, and_true]; omega
  ·refine ats_exit (lq_x ?_)
   refine gB ?_
   refine ats_ret (finB rfl ?_)
   exact (bd_true ⟨⟨lc, fun i hi => (Hi i (by omega)).1⟩, fun x hx => ⟨(Hi 0 (by omega)).2 x hx (.inl rfl), (Hi x (by omega)).2 0 (by omega) (.inr rfl)⟩⟩).symm
theorem isPairing_ok (n : Nat) (m : Int) (c : List (List Int)) (h8 : n ≤ 8) (m1 : 1 ≤ m) (m2 : m ≤ 1000) : PureCall Try.prog 57 [.l2 c, .int n, .int m] (.bool (bd (PairB n m c))) := by
 have hg := isGrid_ok c n m m1 m2
 cases eg : gridB n m c with
 | false =>
  rw [eg] at hg
  have e : bd (PairB n m c) = false := bd_false (fun h => by rw [gridB_iff.2 h.1] at eg; cases eg)
  refine PureCall.intro (n := 35) (rs := [.tmp 6]) Try.call57 Try.func57 rfl rfl rfl (by simp only [List.length_cons, List.length_nil]; omega) (fun cx hcx => ats_of ?_); simp only [argSlots, Nat.zero_add, Nat.reduceAdd]
  refine gA ?_
  refine gC fun K hK => ?_
  first | refine fcall_data (hg) rfl ?_ | refine YR_intro (acall_data (hg) rfl) ?_
  simp only [go_sem, seval]
  (repeat refine aI (hb := ?_))
  refine hK _ ?_; clear hK K
  (repeat refine ats_seq ?_); refine ats_yes rfl trivial ?_
  refine gA ?_
  refine ats_ret (finB rfl ?_)
  rw [e]
 | true =>
  rw [eg] at hg
  have hb := gridB_iff.1 eg
  have lc := hb.1
  refine PureCall.intro (n := 35) (rs := [.tmp 6]) Try.call57 Try.func57 rfl rfl rfl (by simp only [List.length_cons, List.length_nil]; omega) (fun cx hcx => ats_of ?_); simp only [argSlots, Nat.zero_add, Nat.reduceAdd]
  refine gA ?_
  refine gC fun K hK => ?_
  first | refine fcall_data (hg) rfl ?_ | refine YR_intro (acall_data (hg) rfl) ?_
  simp only [go_sem, seval]
  (repeat refine aI (hb := ?_))
  refine hK _ ?_; clear hK K
  (repeat refine ats_seq ?_); refine ats_no rfl trivial ?_
  refine ats_skip ?_
  refine gB ?_
  rw [lc]
  (repeat refine ats_seq ?_); refine ats_loop (fun i : Nat => ⟨[(0, .l2 c), (14, .int n), (15, .int i)], []⟩) (fun i => i ≤ n ∧ ∀ b, b < i → e2 c 0 b = 0 ∧ e2 c b 0 = 0) (fun i => n - i) 0 ⟨Nat.zero_le _, fun a h => absurd h (Nat.not_lt_zero a)⟩ (by refine And.intro ?_ rfl; simp only [leS, Nat.reduceEqDiff, ↓reduceIte, true_and, and_true]; rfl) (fun i hi => ?_); obtain ⟨hi, Hi⟩ := hi
  refine gB ?_
  refine gI (fun h2 => ?_) fun h2 => ?_
  ·have r0 := hb.row (show 0 < n by omega)
   have ri := hb.row (show i < n by omega)
   refine ats_skip ?_
   (repeat refine ats_seq ?_); refine ats_block ?_
   refine gB ?_
   refine gB ?_
   refine gI (fun h3 => ?_) fun h3 => ?_
   ·refine gB ?_
    refine ats_ret (finB rfl ?_)
    refine (bd_false (fun h => ?_)).symm
    have a1 := h.2 i (by omega)
    simp only [e2] at a1
    simp [-List.getD_eq_getElem?_getD, a1.1, a1.2] at h3
   ·have hb : e2 c 0 i = 0 ∧ e2 c i 0 = 0 := by
     simp [-List.getD_eq_getElem?_getD] at h3
     exact h3
    refine ats_skip ?_
    refine gB ?_
    refine ⟨i + 1, ⟨by omega, fun a ha => by rcases Nat.lt_succ_iff_lt_or_eq.1 ha with h | rfl; exact Hi a h; exact hb⟩, by omega, .inl ⟨?_, rfl⟩⟩; simp only [leS, Nat.reduceEqDiff, ↓reduceIte, true_and, and_true]; omega
  ·refine ats_exit (lq_x ?_)
   refine gB ?_
   refine ats_ret (finB rfl ?_)
   exact (bd_true ⟨hb, fun x hx => Hi x (by omega)⟩).symm
end Go.Proofs.Ytcmgjlgmajhekaa
namespace Go.Proofs.Ytcmgjlgmajhekaa
open Go Go.Aw Go.Pl
end Go.Proofs.Ytcmgjlgmajhekaa
namespace Go.Proofs.Ytcmgjlgmajhekaa
open Go Go.Aw Go.Pl
end Go.Proofs.Ytcmgjlgmajhekaa
namespace Go.Proofs.Ytcmgjlgmajhekaa
open Go Go.Aw Go.Pl
theorem takeD {α : Type} {xs : List α} {d : α} {k : Nat} (h : k < xs.length) : xs.take (k + 1) = xs.take k ++ [xs.getD k d] := by
 rw [← List.take_append_getElem h, List.getD_eq_getElem?_getD, List.getElem?_eq_getElem h]
 rfl
theorem bOwn_ok (xs : List Int) (hl : xs.length ≤ 1099511627776) : FreshCall Try.prog 61 [.l1 xs] (.l1 xs) := by
 refine FreshCall.intro (n := 6) (rs := [.tmp 2]) Try.call61 Try.func61 rfl rfl rfl (by simp only [List.length_cons, List.length_nil]; omega) (fun cx hcx => ats_of ?_); simp only [argSlots, Nat.zero_add, Nat.reduceAdd]
 refine gA ?_
 refine gC fun K hK => ?_
 (repeat refine aI (hb := ?_))
 refine hK _ ?_; clear hK K
 exact ats_ret (ownV (is := [0]) rfl ⟨rfl, trivial⟩ rfl (by simp))
theorem bClone_ok (xs : List Int) (h1 : 0 < xs.length) (hl : xs.length ≤ 1099511627776) : FreshCall Try.prog 65 [.l1 xs] (.l1 xs) := by
 refine FreshCall.intro (n := 8) (rs := [.tmp 2]) Try.call65 Try.func65 rfl rfl rfl (by simp only [List.length_cons, List.length_nil]; omega) (fun cx hcx => ats_of ?_); simp only [argSlots, Nat.zero_add, Nat.reduceAdd]
 refine gA ?_
 refine gB ?_
 (repeat refine ats_seq ?_); refine ats_no rfl trivial ?_
 refine ats_skip ?_
 refine gC fun K hK => ?_
 (repeat refine aI (hb := ?_))
 refine hK _ ?_; clear hK K
 exact ats_ret (ownV (is := [0]) rfl ⟨rfl, trivial⟩ rfl (by simp))
theorem bOwn2_ok (n : Nat) (m : Int) (h8 : n ≤ 8) (g : List (List Int)) (hm : GridB n m g) : FreshCall Try.prog 92 [.l2 g] (.l2 g) := by
 have lm := hm.1
 refine FreshCall.intro (n := 21) (rs := [.tmp 2]) Try.call92 Try.func92 rfl rfl rfl (by simp only [List.length_cons, List.length_nil]; omega) (fun cx hcx => ats_of ?_); simp only [argSlots, Nat.zero_add, Nat.reduceAdd]
 refine gA ?_
 refine gA ?_
 refine gA ?_
 (repeat refine ats_seq ?_); refine ats_loop (fun i : Nat => ⟨[(0, .l2 g), (3, .ref 0 []), (4, .int i)], [(0, .t2 (g.take i))]⟩) (fun i => i ≤ n) (fun i => n - i) 0 (Nat.zero_le _) (by refine And.intro ?_ rfl; simp only [leS, Nat.reduceEqDiff, ↓reduceIte, true_and, and_true]; repeat' (first | rfl | with_reducible refine And.intro ?_ ?_ | omega)) (fun i hi => ?_)
 have lt : (g.take i).length = i := by rw [List.length_take]; omega
 refine gB ?_
 refine gI (fun h2 => ?_) fun h2 => ?_
 ·have ri := hm.row (show i < n by omega)
  have ho := bOwn_ok (g.getD i []) (by omega)
  have st := takeD (xs := g) (d := []) (k := i) (by omega)
  refine ats_skip ?_
  (repeat refine ats_seq ?_); refine ats_block ?_
  refine gC fun K hK => ?_
  (repeat refine aI (hb := ?_))
  refine fcall_own rfl (ho) rfl ?_; simp only [go_sem, seval]
  (repeat refine aI (hb := ?_))
  refine hK _ ?_; clear hK K
  refine gB ?_
  refine ⟨i + 1,  by omega, by omega, .inl ⟨by simp only [leS, Nat.reduceEqDiff, ↓reduceIte, true_and, and_true]; omega,  by rw [st]⟩⟩
 ·obtain rfl : i = n := by omega
  rw [List.take_of_length_le (by omega)]
  refine ats_exit (lq_x ?_)
  refine gB ?_
  exact ats_ret (ownV (is := [0]) rfl ⟨rfl, trivial⟩ rfl (by simp))
theorem bOwn3_ok (w : List (List (List Int))) (m : Int) (h8 : w.length ≤ 8) (hc : CubB w.length m w) : FreshCall Try.prog 90 [.l3 w] (.l3 w) := by
 refine FreshCall.intro (n := 21) (rs := [.tmp 2]) Try.call90 Try.func90 rfl rfl rfl (by simp only [List.length_cons, List.length_nil]; omega) (fun cx hcx => ats_of ?_); simp only [argSlots, Nat.zero_add, Nat.reduceAdd]
 refine gA ?_
 refine gA ?_
 refine gA ?_
 (repeat refine ats_seq ?_); refine ats_loop (fun i : Nat => ⟨[(0, .l3 w), (3, .ref 0 []), (4, .int i)], [(0, .t3 (w.take i))]⟩) (fun i => i ≤ w.length) (fun i => w.length - i) 0 (Nat.zero_le _) (by refine And.intro ?_ rfl; simp only [leS, Nat.reduceEqDiff, ↓reduceIte, true_and, and_true]; repeat' (first | rfl | with_reducible refine And.intro ?_ ?_ | omega)) (fun i hi => ?_)
 have lt : (w.take i).length = i := by rw [List.length_take]; omega
 refine gB ?_
 refine gI (fun h2 => ?_) fun h2 => ?_
 ·have ho := bOwn2_ok w.length m h8 (w.getD i []) (hc.2 i (by omega))
  have st := takeD (xs := w) (d := []) (k := i) (by omega)
  refine ats_skip ?_
  (repeat refine ats_seq ?_); refine ats_block ?_
  refine gC fun K hK => ?_
  (repeat refine aI (hb := ?_))
  refine fcall_own rfl (ho) rfl ?_; simp only [go_sem, seval]
  (repeat refine aI (hb := ?_))
  refine hK _ ?_; clear hK K
  refine gB ?_
  refine ⟨i + 1,  by omega, by omega, .inl ⟨by simp only [leS, Nat.reduceEqDiff, ↓reduceIte, true_and, and_true]; omega,  by rw [st]⟩⟩
 ·obtain rfl : i = w.length := by omega
  rw [List.take_of_length_le (by omega)]
  refine ats_exit (lq_x ?_)
  refine gB ?_
  exact ats_ret (ownV (is := [0]) rfl ⟨rfl, trivial⟩ rfl (by simp))
end Go.Proofs.Ytcmgjlgmajhekaa
