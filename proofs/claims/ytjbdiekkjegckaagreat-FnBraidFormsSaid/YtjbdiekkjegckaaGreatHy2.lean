import Derived.Test.YtjbdiekkjegckaaGreatHy1
import Derived.Test.YtjbdiekkjegckaaGreatWx4
set_option linter.unusedSimpArgs false
set_option linter.unusedVariables false
namespace Go.Proofs.YtjbdiekkjegckaaGreat
open Go Go.Aw Go.Pl
set_option maxRecDepth 100000 in
set_option maxHeartbeats 8000000 in
theorem UQ_ (o : List Int) (m : Int) (w : List (List (List Int))) (h : CocS o m w) : PureCall Tryz.prog 113 [.agg [.l1 o, .int m, .l3 w]] (RG_ (cfF o m w)) := by
 have n8 := h.n8
 have hp := h.1
 have h8 := h.2.1
 have m1 := h.2.2.1
 have m2 := h.2.2.2.1
 have hc := h.2.2.2.2.2
 have had := h.ad
 refine gPC 115 [.tmp 2] Tryz.call113 Tryz.func113 fun cx hcx => gE ?_
 refine gA ?_
 (repeat refine xb_ ?_); refine xI_ (xO_ hcx) mixed (by kernel_rfl) fun K hK => ?_; simp only [go_sem, seval]; (repeat refine aI (hb := ?_)); refine hK _ ?_; clear hK K
 refine gA ?_
 (repeat refine xb_ ?_); refine xt_ (fun i : Nat => ⟨[(1, .bptr 0 0), (3, .int w.length), (4, .l3 w), (5, .int i)], [(0, .bx [.l1 o, .int m, .l3 w])]⟩) (fun i => i ≤ w.length ∧ ∀ b, b < i → first w.length (fun y => first w.length fun z => first w.length (cfG o m w b y z)) = none) (fun i => w.length - i) 0 ⟨Nat.zero_le _, fun a h => absurd h (Nat.not_lt_zero a)⟩ (by refine And.intro ?_ rfl; simp only [leS, Nat.reduceEqDiff, ↓reduceIte, true_and, and_true]; rfl) (fun i hi => ?_); obtain ⟨hi, Hi⟩ := hi
 refine gA ?_
 refine gI (fun hli => ?_) fun hli => ?_
 ·have mi := hc.mat (show i < w.length by omega)
  refine xe_ ?_
  refine gO ?_
  refine gA ?_
  (repeat refine xb_ ?_); refine xt_ (fun j : Nat => ⟨[(1, .bptr 0 0), (3, .int w.length), (4, .l3 w), (5, .int i), (6, .int j)], [(0, .bx [.l1 o, .int m, .l3 w])]⟩) (fun j => j ≤ w.length ∧ ∀ b, b < j → first w.length (fun z => first w.length (cfG o m w i b z)) = none) (fun j => w.length - j) 0 ⟨Nat.zero_le _, fun a h => absurd h (Nat.not_lt_zero a)⟩ (by refine And.intro ?_ rfl; simp only [leS, Nat.reduceEqDiff, ↓reduceIte, true_and, and_true]; rfl) (fun j hj => ?_); obtain ⟨hj, Hj⟩ := hj
  refine gA ?_
  refine gI (fun hlj => ?_) fun hlj => ?_
  ·have mj := hc.mat (show j < w.length by omega)
   have rij := hc.row (show i < w.length by omega) (show j < w.length by omega)
   have hA1 := zO_ o hp h8 i j (by omega) (by omega)
   have hp1 := had i j
   obtain ⟨p, ep⟩ : ∃ p, ad o i j = p := ⟨_, rfl⟩
   rw [ep] at hA1 hp1
   have mp := hc.mat hp1
   refine xe_ ?_
   refine gO ?_
   refine gA ?_
   (repeat refine xb_ ?_); refine xt_ (fun k : Nat => ⟨[(1, .bptr 0 0), (3, .int w.length), (4, .l3 w), (5, .int i), (6, .int j), (7, .int k)], [(0, .bx [.l1 o, .int m, .l3 w])]⟩) (fun k => k ≤ w.length ∧ ∀ b, b < k → first w.length (cfG o m w i j b) = none) (fun k => w.length - k) 0 ⟨Nat.zero_le _, fun a h => absurd h (Nat.not_lt_zero a)⟩ (by refine And.intro ?_ rfl; simp only [leS, Nat.reduceEqDiff, ↓reduceIte, true_and, and_true]; rfl) (fun k hk => ?_); obtain ⟨hk, Hk⟩ := hk
   refine gA ?_
   refine gI (fun hlk => ?_) fun hlk => ?_
   ·have rjk := hc.row (show j < w.length by omega) (show k < w.length by omega)
    have hA2 := zO_ o hp h8 j k (by omega) (by omega)
    have hp2 := had j k
    obtain ⟨q, eq⟩ : ∃ q, ad o j k = q := ⟨_, rfl⟩
    rw [eq] at hA2 hp2
    have rpk := hc.row hp1 (show k < w.length by omega)
    have riq := hc.row (show i < w.length by omega) hp2
    refine xe_ ?_
    refine gO ?_
    refine gA ?_
    (repeat refine xb_ ?_); refine xt_ (fun l : Nat => ⟨[(1, .bptr 0 0), (3, .int w.length), (4, .l3 w), (5, .int i), (6, .int j), (7, .int k), (8, .int l)], [(0, .bx [.l1 o, .int m, .l3 w])]⟩) (fun l => l ≤ w.length ∧ ∀ b, b < l → cfG o m w i j k b = none) (fun l => w.length - l) 0 ⟨Nat.zero_le _, fun a h => absurd h (Nat.not_lt_zero a)⟩ (by refine And.intro ?_ rfl; simp only [leS, Nat.reduceEqDiff, ↓reduceIte, true_and, and_true]; rfl) (fun l hl => ?_); obtain ⟨hl, Hl⟩ := hl
    refine gA ?_
    refine gI (fun hll => ?_) fun hll => ?_
    ·have hA3 := zO_ o hp h8 k l (by omega) (by omega)
     have hp3 := had k l
     obtain ⟨r, er⟩ : ∃ r, ad o k l = r := ⟨_, rfl⟩
     rw [er] at hA3 hp3
     have v1 := hc.bd (i := j) (j := k) (k := l) (by omega) (by omega) (by omega)
     have v2 := hc.bd (i := p) (j := k) (k := l) (by omega) (by omega) (by omega)
     have v3 := hc.bd (i := i) (j := q) (k := l) (by omega) (by omega) (by omega)
     have v4 := hc.bd (i := i) (j := j) (k := r) (by omega) (by omega) (by omega)
     have v5 := hc.bd (i := i) (j := j) (k := k) (by omega) (by omega) (by omega)
     have ev : cfV o w i j k l = e3 w j k l - e3 w p k l + e3 w i q l - e3 w i j r + e3 w i j k := by unfold cfV; rw [ep, eq, er]
     simp only [e3] at v1 v2 v3 v4 v5 ev
     have bt : -m < (cfV o w i j k l).tmod m ∧ (cfV o w i j k l).tmod m < m := by
      refine ⟨?_, Int.tmod_lt_of_pos _ (by omega)⟩
      have := Int.tmod_lt_of_pos (-(cfV o w i j k l)) (show 0 < m by omega)
      rw [Int.neg_tmod] at this
      omega
     rw [ev] at bt
     refine xe_ ?_
     refine gO ?_
     (repeat refine xb_ ?_); refine xI_ (xO_ hcx) mixed (by kernel_rfl) fun K hK => ?_; simp only [go_sem, seval]
     refine gU ?_
     first | refine xc_ (hA1) rfl ?_ | refine xd_ (xa_ (hA1) rfl) ?_
     refine gW ?_
     first | refine xc_ (hA2) rfl ?_ | refine xd_ (xa_ (hA2) rfl) ?_
     refine gW ?_
     first | refine xc_ (hA3) rfl ?_ | refine xd_ (xa_ (hA3) rfl) ?_
     refine gW ?_
     refine hK _ ?_; clear hK K
     (repeat refine xb_ ?_); refine xI_ (xO_ hcx) mixed (by kernel_rfl) fun K hK => ?_; simp only [go_sem, seval]; (repeat refine aI (hb := ?_)); refine hK _ ?_; clear hK K
     refine gI (fun hne => ?_) fun hne => ?_
     ·refine gB ?_
      rw [← ev] at hne
      have e : cfF o m w = some [(i : Int), (j : Int), (k : Int), (l : Int)] := first_some (by omega) Hi (first_some (by omega) Hj (first_some (by omega) Hk (first_some (by omega) Hl (if_pos (fun h => hne (tmod_zero.2 h))))))
      exact xf_ (ac5 rfl ⟨rfl, trivial⟩ (by rw [e]; rfl))
     ·rw [← ev] at hne
      refine xe_ ?_
      refine gB ?_
      refine ⟨l + 1, ⟨by omega, fun a ha => by rcases Nat.lt_succ_iff_lt_or_eq.1 ha with h | rfl; exact Hl a h; exact if_neg (fun h => h (tmod_zero.1 hne))⟩, by omega, .inl ⟨?_, rfl⟩⟩; simp only [leS, Nat.reduceEqDiff, ↓reduceIte, true_and, and_true]; omega
    ·refine xh_ (x9_ (xJ_ (Yt_ ?_)))
     refine gB ?_
     refine ⟨k + 1, ⟨by omega, fun a ha => by rcases Nat.lt_succ_iff_lt_or_eq.1 ha with h | rfl; exact Hk a h; exact xB_ (fun k hk => Hl k (by omega))⟩, by omega, .inl ⟨?_, rfl⟩⟩; simp only [leS, Nat.reduceEqDiff, ↓reduceIte, true_and, and_true]; omega
   ·refine xh_ (x9_ (xJ_ (Yt_ ?_)))
    refine gB ?_
    refine ⟨j + 1, ⟨by omega, fun a ha => by rcases Nat.lt_succ_iff_lt_or_eq.1 ha with h | rfl; exact Hj a h; exact xB_ (fun k hk => Hk k (by omega))⟩, by omega, .inl ⟨?_, rfl⟩⟩; simp only [leS, Nat.reduceEqDiff, ↓reduceIte, true_and, and_true]; omega
  ·refine xh_ (x9_ (xJ_ (Yt_ ?_)))
   refine gB ?_
   refine ⟨i + 1, ⟨by omega, fun a ha => by rcases Nat.lt_succ_iff_lt_or_eq.1 ha with h | rfl; exact Hi a h; exact xB_ (fun k hk => Hj k (by omega))⟩, by omega, .inl ⟨?_, rfl⟩⟩; simp only [leS, Nat.reduceEqDiff, ↓reduceIte, true_and, and_true]; omega
 ·refine xh_ (x9_ ?_)
  refine gA ?_
  have e : cfF o m w = none := xB_ (fun k hk => Hi k (by omega))
  exact xf_ (ac5 rfl ⟨rfl, trivial⟩ (by rw [e]; rfl))
set_option maxRecDepth 100000 in
set_option maxHeartbeats 8000000 in
theorem R4_ (o : List Int) (m : Int) (w : List (List (List Int))) (h : CocS o m w) : PureCall Tryz.prog 110 [.agg [.l1 o, .int m, .l3 w]] (RG_ (cfF o m w)) := by
 have n8 := h.n8
 have hp := h.1
 have h8 := h.2.1
 have m1 := h.2.2.1
 have m2 := h.2.2.2.1
 have hc := h.2.2.2.2.2
 have had := h.ad
 refine gPC 107 [.tmp 2] Tryz.call110 Tryz.func110 fun cx hcx => gE ?_
 refine gA ?_
 refine gB ?_
 refine gA ?_
 (repeat refine xb_ ?_); refine xt_ (fun i : Nat => ⟨[(1, .bptr 0 0), (3, .l3 w), (12, .int w.length), (13, .int i)], [(0, .bx [.l1 o, .int m, .l3 w])]⟩) (fun i => i ≤ w.length ∧ ∀ b, b < i → first w.length (fun y => first w.length fun z => first w.length (cfG o m w b y z)) = none) (fun i => w.length - i) 0 ⟨Nat.zero_le _, fun a h => absurd h (Nat.not_lt_zero a)⟩ (by refine And.intro ?_ rfl; simp only [leS, Nat.reduceEqDiff, ↓reduceIte, true_and, and_true]; rfl) (fun i hi => ?_); obtain ⟨hi, Hi⟩ := hi
 refine gA ?_
 refine gI (fun hli => ?_) fun hli => ?_
 ·have mi := hc.mat (show i < w.length by omega)
  refine xe_ ?_
  refine gO ?_
  refine gA ?_
  refine gA ?_
  (repeat refine xb_ ?_); refine xt_ (fun j : Nat => ⟨[(1, .bptr 0 0), (3, .l3 w), (4, .int i), (12, .int w.length), (13, .int i), (17, .int w.length), (18, .int j)], [(0, .bx [.l1 o, .int m, .l3 w])]⟩) (fun j => j ≤ w.length ∧ ∀ b, b < j → first w.length (fun z => first w.length (cfG o m w i b z)) = none) (fun j => w.length - j) 0 ⟨Nat.zero_le _, fun a h => absurd h (Nat.not_lt_zero a)⟩ (by refine And.intro ?_ rfl; simp only [leS, Nat.reduceEqDiff, ↓reduceIte, true_and, and_true]; rfl) (fun j hj => ?_); obtain ⟨hj, Hj⟩ := hj
  refine gA ?_
  refine gI (fun hlj => ?_) fun hlj => ?_
  ·have mj := hc.mat (show j < w.length by omega)
   have rij := hc.row (show i < w.length by omega) (show j < w.length by omega)
   have hA1 := Z2_ o m w hp h8 i j (by omega) (by omega)
   have hp1 := had i j
   obtain ⟨p, ep⟩ : ∃ p, ad o i j = p := ⟨_, rfl⟩
   rw [ep] at hA1 hp1
   have mp := hc.mat hp1
   refine xe_ ?_
   refine gO ?_
   refine gA ?_
   refine gA ?_
   (repeat refine xb_ ?_); refine xt_ (fun k : Nat => ⟨[(1, .bptr 0 0), (3, .l3 w), (4, .int i), (5, .int j), (12, .int w.length), (13, .int i), (17, .int w.length), (18, .int j), (22, .int w.length), (23, .int k)], [(0, .bx [.l1 o, .int m, .l3 w])]⟩) (fun k => k ≤ w.length ∧ ∀ b, b < k → first w.length (cfG o m w i j b) = none) (fun k => w.length - k) 0 ⟨Nat.zero_le _, fun a h => absurd h (Nat.not_lt_zero a)⟩ (by refine And.intro ?_ rfl; simp only [leS, Nat.reduceEqDiff, ↓reduceIte, true_and, and_true]; rfl) (fun k hk => ?_); obtain ⟨hk, Hk⟩ := hk
   refine gA ?_
   refine gI (fun hlk => ?_) fun hlk => ?_
   ·have rjk := hc.row (show j < w.length by omega) (show k < w.length by omega)
    have hA2 := Z2_ o m w hp h8 j k (by omega) (by omega)
    have hp2 := had j k
    obtain ⟨q, eq⟩ : ∃ q, ad o j k = q := ⟨_, rfl⟩
    rw [eq] at hA2 hp2
    have rpk := hc.row hp1 (show k < w.length by omega)
    have riq := hc.row (show i < w.length by omega) hp2
    refine xe_ ?_
    refine gO ?_
    refine gA ?_
    refine gA ?_
    (repeat refine xb_ ?_); refine xt_ (fun l : Nat => ⟨[(1, .bptr 0 0), (3, .l3 w), (4, .int i), (5, .int j), (6, .int k), (12, .int w.length), (13, .int i), (17, .int w.length), (18, .int j), (22, .int w.length), (23, .int k), (27, .int w.length), (28, .int l)], [(0, .bx [.l1 o, .int m, .l3 w])]⟩) (fun l => l ≤ w.length ∧ ∀ b, b < l → cfG o m w i j k b = none) (fun l => w.length - l) 0 ⟨Nat.zero_le _, fun a h => absurd h (Nat.not_lt_zero a)⟩ (by refine And.intro ?_ rfl; simp only [leS, Nat.reduceEqDiff, ↓reduceIte, true_and, and_true]; rfl) (fun l hl => ?_); obtain ⟨hl, Hl⟩ := hl
    refine gA ?_
    refine gI (fun hll => ?_) fun hll => ?_
    ·have hA3 := Z2_ o m w hp h8 k l (by omega) (by omega)
     have hp3 := had k l
     obtain ⟨r, er⟩ : ∃ r, ad o k l = r := ⟨_, rfl⟩
     rw [er] at hA3 hp3
     have v1 := hc.bd (i := j) (j := k) (k := l) (by omega) (by omega) (by omega)
     have v2 := hc.bd (i := p) (j := k) (k := l) (by omega) (by omega) (by omega)
     have v3 := hc.bd (i := i) (j := q) (k := l) (by omega) (by omega) (by omega)
     have v4 := hc.bd (i := i) (j := j) (k := r) (by omega) (by omega) (by omega)
     have v5 := hc.bd (i := i) (j := j) (k := k) (by omega) (by omega) (by omega)
     have ev : cfV o w i j k l = e3 w j k l - e3 w p k l + e3 w i q l - e3 w i j r + e3 w i j k := by unfold cfV; rw [ep, eq, er]
     have hR := zB_ o m w (cfV o w i j k l) m1 m2
     simp only [e3] at v1 v2 v3 v4 v5 ev
     refine xe_ ?_
     refine gO ?_
     refine gA ?_
     (repeat refine xb_ ?_); refine xI_ (xO_ hcx) mixed (by kernel_rfl) fun K hK => ?_; simp only [go_sem, seval]
     refine gU ?_
     first | refine xc_ (hA1) rfl ?_ | refine xd_ (xa_ (hA1) rfl) ?_
     refine gW ?_
     first | refine xc_ (hA2) rfl ?_ | refine xd_ (xa_ (hA2) rfl) ?_
     refine gW ?_
     first | refine xc_ (hA3) rfl ?_ | refine xd_ (xa_ (hA3) rfl) ?_
     refine gW ?_
     rw [← ev]
     refine hK _ ?_; clear hK K
     refine gC fun K hK => ?_
     refine gU ?_
     first | refine xc_ (hR) rfl ?_ | refine xd_ (xa_ (hR) rfl) ?_
     refine gW ?_
     refine hK _ ?_; clear hK K
     refine gI (fun hne => ?_) fun hne => ?_
     ·refine gB ?_
      have e : cfF o m w = some [(i : Int), (j : Int), (k : Int), (l : Int)] := first_some (by omega) Hi (first_some (by omega) Hj (first_some (by omega) Hk (first_some (by omega) Hl (if_pos hne))))
      exact xf_ (ac5 rfl ⟨rfl, trivial⟩ (by rw [e]; rfl))
     ·refine xe_ ?_
      refine gB ?_
      refine ⟨l + 1, ⟨by omega, fun a ha => by rcases Nat.lt_succ_iff_lt_or_eq.1 ha with h | rfl; exact Hl a h; exact if_neg (fun h => h hne)⟩, by omega, .inl ⟨?_, rfl⟩⟩; simp only [leS, Nat.reduceEqDiff, ↓reduceIte, true_and, and_true]; omega
    ·refine xh_ (x9_ (xJ_ (Yt_ ?_)))
     refine gB ?_
     refine ⟨k + 1, ⟨by omega, fun a ha => by rcases Nat.lt_succ_iff_lt_or_eq.1 ha with h | rfl; exact Hk a h; exact xB_ (fun k hk => Hl k (by omega))⟩, by omega, .inl ⟨?_, rfl⟩⟩; simp only [leS, Nat.reduceEqDiff, ↓reduceIte, true_and, and_true]; omega
   ·refine xh_ (x9_ (xJ_ (Yt_ ?_)))
    refine gB ?_
    refine ⟨j + 1, ⟨by omega, fun a ha => by rcases Nat.lt_succ_iff_lt_or_eq.1 ha with h | rfl; exact Hj a h; exact xB_ (fun k hk => Hk k (by omega))⟩, by omega, .inl ⟨?_, rfl⟩⟩; simp only [leS, Nat.reduceEqDiff, ↓reduceIte, true_and, and_true]; omega
  ·refine xh_ (x9_ (xJ_ (Yt_ ?_)))
   refine gB ?_
   refine ⟨i + 1, ⟨by omega, fun a ha => by rcases Nat.lt_succ_iff_lt_or_eq.1 ha with h | rfl; exact Hi a h; exact xB_ (fun k hk => Hj k (by omega))⟩, by omega, .inl ⟨?_, rfl⟩⟩; simp only [leS, Nat.reduceEqDiff, ↓reduceIte, true_and, and_true]; omega
 ·refine xh_ (x9_ ?_)
  refine gA ?_
  have e : cfF o m w = none := xB_ (fun k hk => Hi k (by omega))
  exact xf_ (ac5 rfl ⟨rfl, trivial⟩ (by rw [e]; rfl))
end Go.Proofs.YtjbdiekkjegckaaGreat
namespace Go.Proofs.YtjbdiekkjegckaaGreat
open Go Go.Aw Go.Pl
theorem K5_ (o : List Int) (m : Int) (w : List (List (List Int))) : PureCall Tryz.prog 90 [.agg [.l1 o, .int m, .l3 w]] (.bool (UV_ o m w)) := by
 have hS := UT_ o m w
 unfold UV_
 by_cases h : CocS o m w
 ·have hN := VU_ o m w h
  have hF := UQ_ o m w h
  rw [xS_ h] at hS
  by_cases hn : Sx_ w
  ·rw [xS_ hn] at hN
   cases hf : cfF o m w with
   | none =>
    have e : bd (wM_ o m w) = true := xS_ ⟨h, hn, hf⟩
    rw [hf] at hF
    simp only [RG_] at hF
    refine gPC 15 [.tmp 2] Tryz.call90 Tryz.func90 fun cx hcx => gE ?_
    refine gA ?_
    refine gC fun K hK => ?_
    first | refine xc_ (hS) rfl ?_ | refine xd_ (xa_ (hS) rfl) ?_
    refine gW ?_
    first | refine xc_ (hN) rfl ?_ | refine xd_ (xa_ (hN) rfl) ?_
    refine gW ?_
    first | refine xc_ (hF) rfl ?_ | refine xd_ (xa_ (hF) rfl) ?_
    refine gW ?_
    refine hK _ ?_; clear hK K
    refine xf_ (yu_ rfl ?_)
    rw [e]; rfl
   | some v =>
    have e : bd (wM_ o m w) = false := xz_ (fun h => by have := h.2.2; rw [hf] at this; cases this)
    have hl : (v.length : Int) ≠ 0 := by
     have hv := hf
     unfold cfF at hv
     have : v.length = 4 := yC_ (P := fun v => v.length = 4) hv fun x u hx => yC_ (P := fun v => v.length = 4) hx fun y u hy => yC_ (P := fun v => v.length = 4) hy fun z u hz => yC_ (P := fun v => v.length = 4) hz fun t u ht => by
      unfold cfG at ht
      split at ht <;> cases ht
      rfl
     omega
    rw [hf] at hF
    simp only [RG_] at hF
    refine gPC 15 [.tmp 2] Tryz.call90 Tryz.func90 fun cx hcx => gE ?_
    refine gA ?_
    refine gC fun K hK => ?_
    first | refine xc_ (hS) rfl ?_ | refine xd_ (xa_ (hS) rfl) ?_
    refine gW ?_
    first | refine xc_ (hN) rfl ?_ | refine xd_ (xa_ (hN) rfl) ?_
    refine gW ?_
    first | refine xc_ (hF) rfl ?_ | refine xd_ (xa_ (hF) rfl) ?_
    refine gW ?_
    refine hK _ ?_; clear hK K
    refine xf_ (yu_ rfl ?_)
    rw [e]
    simpa using hl
  ·rw [xz_ hn] at hN
   have e : bd (wM_ o m w) = false := xz_ (fun h => hn h.2.1)
   refine gPC 15 [.tmp 2] Tryz.call90 Tryz.func90 fun cx hcx => gE ?_
   refine gA ?_
   refine gC fun K hK => ?_
   first | refine xc_ (hS) rfl ?_ | refine xd_ (xa_ (hS) rfl) ?_
   refine gW ?_
   first | refine xc_ (hN) rfl ?_ | refine xd_ (xa_ (hN) rfl) ?_
   refine gW ?_
   refine xd_ (v := .nil) (by first | trivial | (intro h; cases h)) ?_
   refine gV ?_
   refine hK _ ?_; clear hK K
   refine xf_ (yu_ rfl ?_)
   rw [e]
 ·rw [xz_ h] at hS
  have e : bd (wM_ o m w) = false := xz_ (fun h' => h h'.1)
  refine gPC 15 [.tmp 2] Tryz.call90 Tryz.func90 fun cx hcx => gE ?_
  refine gA ?_
  refine gC fun K hK => ?_
  first | refine xc_ (hS) rfl ?_ | refine xd_ (xa_ (hS) rfl) ?_
  refine gW ?_
  refine xd_ (v := .bool false) (by first | trivial | (intro h; cases h)) ?_
  refine gV ?_
  refine xd_ (v := .nil) (by first | trivial | (intro h; cases h)) ?_
  refine gV ?_
  refine hK _ ?_; clear hK K
  refine xf_ (yu_ rfl ?_)
  rw [e]
theorem VR_ (o : List Int) (m : Int) (w : List (List (List Int))) : PureCall Tryz.prog 88 [.agg [.l1 o, .int m, .l3 w]] (.bool (UV_ o m w)) := by
 have hS := Uy_ o m w
 unfold UV_
 by_cases h : CocS o m w
 ·have hN := Z1_ o m w h
  have hF := R4_ o m w h
  rw [xS_ h] at hS
  by_cases hn : Sx_ w
  ·rw [xS_ hn] at hN
   cases hf : cfF o m w with
   | none =>
    have e : bd (wM_ o m w) = true := xS_ ⟨h, hn, hf⟩
    rw [hf] at hF
    simp only [RG_] at hF
    refine gPC 14 [.tmp 2] Tryz.call88 Tryz.func88 fun cx hcx => gE ?_
    refine gA ?_
    refine gC fun K hK => ?_
    first | refine xc_ (hS) rfl ?_ | refine xd_ (xa_ (hS) rfl) ?_
    refine gW ?_
    first | refine xc_ (hN) rfl ?_ | refine xd_ (xa_ (hN) rfl) ?_
    refine gW ?_
    first | refine xc_ (hF) rfl ?_ | refine xd_ (xa_ (hF) rfl) ?_
    refine gW ?_
    refine hK _ ?_; clear hK K
    refine xf_ (yu_ rfl ?_)
    rw [e]
   | some v =>
    have e : bd (wM_ o m w) = false := xz_ (fun h => by have := h.2.2; rw [hf] at this; cases this)
    have hl : 0 < v.length := by
     have hv := hf
     unfold cfF at hv
     have : v.length = 4 := yC_ (P := fun v => v.length = 4) hv fun x u hx => yC_ (P := fun v => v.length = 4) hx fun y u hy => yC_ (P := fun v => v.length = 4) hy fun z u hz => yC_ (P := fun v => v.length = 4) hz fun t u ht => by
      unfold cfG at ht
      split at ht <;> cases ht
      rfl
     omega
    rw [hf] at hF
    simp only [RG_] at hF
    refine gPC 14 [.tmp 2] Tryz.call88 Tryz.func88 fun cx hcx => gE ?_
    refine gA ?_
    refine gC fun K hK => ?_
    first | refine xc_ (hS) rfl ?_ | refine xd_ (xa_ (hS) rfl) ?_
    refine gW ?_
    first | refine xc_ (hN) rfl ?_ | refine xd_ (xa_ (hN) rfl) ?_
    refine gW ?_
    first | refine xc_ (hF) rfl ?_ | refine xd_ (xa_ (hF) rfl) ?_
    refine gW ?_
    refine hK _ ?_; clear hK K
    refine xf_ (yu_ rfl ?_)
    rw [e]
  ·rw [xz_ hn] at hN
   have e : bd (wM_ o m w) = false := xz_ (fun h => hn h.2.1)
   refine gPC 14 [.tmp 2] Tryz.call88 Tryz.func88 fun cx hcx => gE ?_
   refine gA ?_
   refine gC fun K hK => ?_
   first | refine xc_ (hS) rfl ?_ | refine xd_ (xa_ (hS) rfl) ?_
   refine gW ?_
   first | refine xc_ (hN) rfl ?_ | refine xd_ (xa_ (hN) rfl) ?_
   refine gW ?_
   refine xd_ (v := .nil) (by first | trivial | (intro h; cases h)) ?_
   refine gV ?_
   refine hK _ ?_; clear hK K
   refine xf_ (yu_ rfl ?_)
   rw [e]
 ·rw [xz_ h] at hS
  have e : bd (wM_ o m w) = false := xz_ (fun h' => h h'.1)
  refine gPC 14 [.tmp 2] Tryz.call88 Tryz.func88 fun cx hcx => gE ?_
  refine gA ?_
  refine gC fun K hK => ?_
  first | refine xc_ (hS) rfl ?_ | refine xd_ (xa_ (hS) rfl) ?_
  refine gW ?_
  refine xd_ (v := .bool false) (by first | trivial | (intro h; cases h)) ?_
  refine gV ?_
  refine xd_ (v := .nil) (by first | trivial | (intro h; cases h)) ?_
  refine gV ?_
  refine hK _ ?_; clear hK K
  refine xf_ (yu_ rfl ?_)
  rw [e]
set_option maxHeartbeats 2000000 in
theorem XJ_ (n : Nat) (m : Int) (c : List (List Int)) (h8 : n ≤ 8) (m1 : 1 ≤ m) (m2 : m ≤ 1000) : PureCall Tryz.prog 114 [.int n, .int m, .l2 c] (.bool (bd (wq_ n m c))) := by
 refine gPC 59 [.tmp 6] Tryz.call114 Tryz.func114 fun cx hcx => gE ?_
 refine gB ?_
 refine gB ?_
 refine gI (fun h1 => ?_) fun h1 => ?_
 ·refine gB ?_
  refine xf_ (yu_ rfl ?_)
  exact (xz_ (fun h => by have := h.1.1; omega)).symm
 ·have lc : c.length = n := by omega
  refine xe_ ?_
  refine gB ?_
  (repeat refine xb_ ?_); refine xt_ (fun i : Nat => ⟨[(0, .int n), (1, .int m), (2, .l2 c), (7, .int i)], []⟩) (fun i => i ≤ n ∧ ∀ b, b < i → aw1 n m (c.getD b []) ∧ ∀ y, y < n → b = 0 ∨ y = 0 → e2 c b y = 0) (fun i => n - i) 0 ⟨Nat.zero_le _, fun a h => absurd h (Nat.not_lt_zero a)⟩ (by refine And.intro ?_ rfl; simp only [leS, Nat.reduceEqDiff, ↓reduceIte, true_and, and_true]; rfl) (fun i hi => ?_); obtain ⟨hi, Hi⟩ := hi
  refine gB ?_
  refine gI (fun h2 => ?_) fun h2 => ?_
  ·refine xe_ ?_
   refine gO ?_
   refine gB ?_
   refine gI (fun h3 => ?_) fun h3 => ?_
   ·refine gB ?_
    refine xf_ (yu_ rfl ?_)
    exact (xz_ (fun h => by have := (h.1.2 i (by omega)).1; omega)).symm
   ·refine xe_ ?_
    refine gB ?_
    (repeat refine xb_ ?_); refine xt_ (fun j : Nat => ⟨[(0, .int n), (1, .int m), (2, .l2 c), (7, .int i), (8, .int j)], []⟩) (fun j => j ≤ n ∧ ∀ b, b < j → (0 ≤ e2 c i b ∧ e2 c i b ≤ m - 1) ∧ (i = 0 ∨ b = 0 → e2 c i b = 0)) (fun j => n - j) 0 ⟨Nat.zero_le _, fun a h => absurd h (Nat.not_lt_zero a)⟩ (by refine And.intro ?_ rfl; simp only [leS, Nat.reduceEqDiff, ↓reduceIte, true_and, and_true]; rfl) (fun j hj => ?_); obtain ⟨hj, Hj⟩ := hj
    refine gB ?_
    refine gI (fun h4 => ?_) fun h4 => ?_
    ·refine xe_ ?_
     refine gO ?_
     refine gC fun K hK => ?_
     refine gU ?_
     first | refine xc_ (z3_ ((c.getD i []).getD j 0) 0 (m - 1)) rfl ?_ | refine xd_ (xa_ (z3_ ((c.getD i []).getD j 0) 0 (m - 1)) rfl) ?_
     refine gW ?_
     refine hK _ ?_; clear hK K
     refine gI (fun h5 => ?_) fun h5 => ?_
     ·refine gB ?_
      refine xf_ (yu_ rfl ?_)
      refine (xz_ (fun h => ?_)).symm
      have a1 := h.1.bd (j := i) (k := j) (by omega) (by omega)
      have a2 := h.2 i (by omega)
      have a3 := h.2 j (by omega)
      simp only [e2] at a1 a2 a3
      simp [-List.getD_eq_getElem?_getD] at h5
      rcases h5 with h5 | ⟨rfl | rfl, h5⟩
      ·omega
      ·exact h5 a3.1
      ·exact h5 a2.2
     ·have hb : (0 ≤ e2 c i j ∧ e2 c i j ≤ m - 1) ∧ (i = 0 ∨ j = 0 → e2 c i j = 0) := by
       simp [-List.getD_eq_getElem?_getD] at h5
       simp only [e2]
       exact ⟨h5.1, fun h => h5.2 (by omega)⟩
      refine xe_ ?_
      refine gB ?_
      refine ⟨j + 1, ⟨by omega, fun a ha => by rcases Nat.lt_succ_iff_lt_or_eq.1 ha with h | rfl; exact Hj a h; exact hb⟩, by omega, .inl ⟨?_, rfl⟩⟩; simp only [leS, Nat.reduceEqDiff, ↓reduceIte, true_and, and_true]; omega
    ·refine xh_ (x9_ (xJ_ (Yt_ ?_)))
     refine gB ?_
     refine ⟨i + 1, ⟨by omega, fun a ha => by rcases Nat.lt_succ_iff_lt_or_eq.1 ha with h | rfl; exact Hi a h; exact ⟨⟨by omega, fun k hk => (Hj k (by omega)).1⟩, fun y hy => (Hj y (by omega)).2⟩⟩, by omega, .inl ⟨?_, rfl⟩⟩; simp only [leS, Nat.reduceEqDiff, ↓reduceIte, true_and, and_true]; omega
  ·refine xh_ (x9_ ?_)
   refine gB ?_
   refine xf_ (yu_ rfl ?_)
   exact (xS_ ⟨⟨lc, fun i hi => (Hi i (by omega)).1⟩, fun x hx => ⟨(Hi 0 (by omega)).2 x hx (.inl rfl), (Hi x (by omega)).2 0 (by omega) (.inr rfl)⟩⟩).symm
theorem W1_ (n : Nat) (m : Int) (c : List (List Int)) (h8 : n ≤ 8) (m1 : 1 ≤ m) (m2 : m ≤ 1000) : PureCall Tryz.prog 91 [.int n, .int m, .l2 c] (.bool (bd (wq_ n m c))) := by
 refine gPC 11 [.tmp 6] Tryz.call91 Tryz.func91 fun cx hcx => gE ?_
 refine gA ?_
 refine gC fun K hK => ?_
 first | refine xc_ (XJ_ n m c h8 m1 m2) rfl ?_ | refine xd_ (xa_ (XJ_ n m c h8 m1 m2) rfl) ?_
 refine gW ?_
 refine hK _ ?_; clear hK K
 refine xf_ (yu_ rfl ?_)
 rfl
theorem YH_ (n : Nat) (m : Int) (c : List (List Int)) (h8 : n ≤ 8) (m1 : 1 ≤ m) (m2 : m ≤ 1000) : PureCall Tryz.prog 73 [.l2 c, .int n, .int m] (.bool (bd (wq_ n m c))) := by
 have hg := Z0_ c n m m1 m2
 cases eg : Vz_ n m c with
 | false =>
  rw [eg] at hg
  have e : bd (wq_ n m c) = false := xz_ (fun h => by rw [gridB_iff.2 h.1] at eg; cases eg)
  refine gPC 35 [.tmp 6] Tryz.call73 Tryz.func73 fun cx hcx => gE ?_
  refine gA ?_
  refine gC fun K hK => ?_
  first | refine xc_ (hg) rfl ?_ | refine xd_ (xa_ (hg) rfl) ?_
  refine gW ?_
  refine hK _ ?_; clear hK K
  refine gR ?_
  refine gA ?_
  refine xf_ (yu_ rfl ?_)
  rw [e]
 | true =>
  rw [eg] at hg
  have hb := gridB_iff.1 eg
  have lc := hb.1
  refine gPC 35 [.tmp 6] Tryz.call73 Tryz.func73 fun cx hcx => gE ?_
  refine gA ?_
  refine gC fun K hK => ?_
  first | refine xc_ (hg) rfl ?_ | refine xd_ (xa_ (hg) rfl) ?_
  refine gW ?_
  refine hK _ ?_; clear hK K
  refine gQ ?_
  refine xe_ ?_
  refine gB ?_
  rw [lc]
  (repeat refine xb_ ?_); refine xt_ (fun i : Nat => ⟨[(0, .l2 c), (14, .int n), (15, .int i)], []⟩) (fun i => i ≤ n ∧ ∀ b, b < i → e2 c 0 b = 0 ∧ e2 c b 0 = 0) (fun i => n - i) 0 ⟨Nat.zero_le _, fun a h => absurd h (Nat.not_lt_zero a)⟩ (by refine And.intro ?_ rfl; simp only [leS, Nat.reduceEqDiff, ↓reduceIte, true_and, and_true]; rfl) (fun i hi => ?_); obtain ⟨hi, Hi⟩ := hi
  refine gB ?_
  refine gI (fun h2 => ?_) fun h2 => ?_
  ·have r0 := hb.row (show 0 < n by omega)
   have ri := hb.row (show i < n by omega)
   refine xe_ ?_
   refine gO ?_
   refine gB ?_
   refine gB ?_
   refine gI (fun h3 => ?_) fun h3 => ?_
   ·refine gB ?_
    refine xf_ (yu_ rfl ?_)
    refine (xz_ (fun h => ?_)).symm
    have a1 := h.2 i (by omega)
    simp only [e2] at a1
    simp [-List.getD_eq_getElem?_getD, a1.1, a1.2] at h3
   ·have hb : e2 c 0 i = 0 ∧ e2 c i 0 = 0 := by
     simp [-List.getD_eq_getElem?_getD] at h3
     exact h3
    refine xe_ ?_
    refine gB ?_
    refine ⟨i + 1, ⟨by omega, fun a ha => by rcases Nat.lt_succ_iff_lt_or_eq.1 ha with h | rfl; exact Hi a h; exact hb⟩, by omega, .inl ⟨?_, rfl⟩⟩; simp only [leS, Nat.reduceEqDiff, ↓reduceIte, true_and, and_true]; omega
  ·refine xh_ (x9_ ?_)
   refine gB ?_
   refine xf_ (yu_ rfl ?_)
   exact (xS_ ⟨hb, fun x hx => Hi x (by omega)⟩).symm
end Go.Proofs.YtjbdiekkjegckaaGreat
namespace Go.Proofs.YtjbdiekkjegckaaGreat
open Go Go.Aw Go.Pl
set_option maxRecDepth 100000 in
set_option maxHeartbeats 8000000 in
theorem R5_ (o : List Int) (m : Int) (w : List (List (List Int))) (c : List (List Int)) (h : CocS o m w) (hb : GridB w.length m c) (x y z : Nat) (hx : x < w.length) (hy : y < w.length) (hz : z < w.length) : PureCall Tryz.prog 92 [.agg [.l1 o, .int m, .l3 w], .l2 c, .int x, .int y, .int z] (.bool (decide (br1 o w c x y z % m = 0))) := by
 have n8 := h.n8
 have m1 := h.2.2.1
 have m2 := h.2.2.2.1
 have hc := h.2.2.2.2.2
 have lc := hb.1
 have hA := zO_ o h.1 h.2.1 y z (by omega) (by omega)
 have hp := h.ad y z
 have ev : br1 o w c x y z = br1 o w c x y z := rfl
 have bt : -m < (br1 o w c x y z).tmod m ∧ (br1 o w c x y z).tmod m < m := by
  refine ⟨?_, Int.tmod_lt_of_pos _ (by omega)⟩
  have := Int.tmod_lt_of_pos (-(br1 o w c x y z)) (show 0 < m by omega)
  rw [Int.neg_tmod] at this
  omega
 have ed : decide ((br1 o w c x y z).tmod m = 0) = decide (br1 o w c x y z % m = 0) := decide_eq_decide.2 tmod_zero
 rw [← ed]
 unfold br1 at bt ⊢
 obtain ⟨p, ep⟩ : ∃ p, ad o y z = p := ⟨_, rfl⟩
 rw [ep] at hA hp bt ⊢
 have mq := hc.mat (i := y) (by omega)
 have rq := hc.row (i := y) (j := z) (by omega) (by omega)
 have vq := hc.bd (i := y) (j := z) (k := x) (by omega) (by omega) (by omega)
 have md := hc.mat (i := x) (by omega)
 have rd := hc.row (i := x) (j := y) (by omega) (by omega)
 have vd := hc.bd (i := x) (j := y) (k := z) (by omega) (by omega) (by omega)
 have mg := hc.mat (i := y) (by omega)
 have rg := hc.row (i := y) (j := x) (by omega) (by omega)
 have vg := hc.bd (i := y) (j := x) (k := z) (by omega) (by omega) (by omega)
 have c1 := hb.row (j := x) (by omega)
 have u1 := hb.bd (j := x) (k := p) (by omega) (by omega)
 have c2 := hb.row (j := x) (by omega)
 have u2 := hb.bd (j := x) (k := z) (by omega) (by omega)
 have c3 := hb.row (j := x) (by omega)
 have u3 := hb.bd (j := x) (k := y) (by omega) (by omega)
 simp only [e3, e2] at vq vd vg u1 u2 u3 bt ⊢
 refine gPC 80 [.tmp 10] Tryz.call92 Tryz.func92 fun cx hcx => gE ?_
 refine gB ?_
 refine gC fun K hK => ?_
 refine gU ?_
 first | refine xc_ (hA) rfl ?_ | refine xd_ (xa_ (hA) rfl) ?_
 refine gW ?_
 refine hK _ ?_; clear hK K
 refine gB ?_
 (repeat refine xb_ ?_); refine xI_ (xO_ hcx) mixed (by kernel_rfl) fun K hK => ?_; simp only [go_sem, seval]; (repeat refine aI (hb := ?_)); refine hK _ ?_; clear hK K
 refine xf_ (yu_ rfl ?_)
 rfl
set_option maxRecDepth 100000 in
set_option maxHeartbeats 8000000 in
theorem R6_ (o : List Int) (m : Int) (w : List (List (List Int))) (c : List (List Int)) (h : CocS o m w) (hb : GridB w.length m c) (x y z : Nat) (hx : x < w.length) (hy : y < w.length) (hz : z < w.length) : PureCall Tryz.prog 93 [.agg [.l1 o, .int m, .l3 w], .l2 c, .int x, .int y, .int z] (.bool (decide (br2 o w c x y z % m = 0))) := by
 have n8 := h.n8
 have m1 := h.2.2.1
 have m2 := h.2.2.2.1
 have hc := h.2.2.2.2.2
 have lc := hb.1
 have hA := zO_ o h.1 h.2.1 x y (by omega) (by omega)
 have hp := h.ad x y
 have ev : br2 o w c x y z = br2 o w c x y z := rfl
 have bt : -m < (br2 o w c x y z).tmod m ∧ (br2 o w c x y z).tmod m < m := by
  refine ⟨?_, Int.tmod_lt_of_pos _ (by omega)⟩
  have := Int.tmod_lt_of_pos (-(br2 o w c x y z)) (show 0 < m by omega)
  rw [Int.neg_tmod] at this
  omega
 have ed : decide ((br2 o w c x y z).tmod m = 0) = decide (br2 o w c x y z % m = 0) := decide_eq_decide.2 tmod_zero
 rw [← ed]
 unfold br2 at bt ⊢
 obtain ⟨p, ep⟩ : ∃ p, ad o x y = p := ⟨_, rfl⟩
 rw [ep] at hA hp bt ⊢
 have mq := hc.mat (i := z) (by omega)
 have rq := hc.row (i := z) (j := x) (by omega) (by omega)
 have vq := hc.bd (i := z) (j := x) (k := y) (by omega) (by omega) (by omega)
 have md := hc.mat (i := x) (by omega)
 have rd := hc.row (i := x) (j := y) (by omega) (by omega)
 have vd := hc.bd (i := x) (j := y) (k := z) (by omega) (by omega) (by omega)
 have mg := hc.mat (i := x) (by omega)
 have rg := hc.row (i := x) (j := z) (by omega) (by omega)
 have vg := hc.bd (i := x) (j := z) (k := y) (by omega) (by omega) (by omega)
 have c1 := hb.row (j := p) (by omega)
 have u1 := hb.bd (j := p) (k := z) (by omega) (by omega)
 have c2 := hb.row (j := x) (by omega)
 have u2 := hb.bd (j := x) (k := z) (by omega) (by omega)
 have c3 := hb.row (j := y) (by omega)
 have u3 := hb.bd (j := y) (k := z) (by omega) (by omega)
 simp only [e3, e2] at vq vd vg u1 u2 u3 bt ⊢
 refine gPC 80 [.tmp 10] Tryz.call93 Tryz.func93 fun cx hcx => gE ?_
 refine gB ?_
 refine gC fun K hK => ?_
 refine gU ?_
 first | refine xc_ (hA) rfl ?_ | refine xd_ (xa_ (hA) rfl) ?_
 refine gW ?_
 refine hK _ ?_; clear hK K
 refine gB ?_
 (repeat refine xb_ ?_); refine xI_ (xO_ hcx) mixed (by kernel_rfl) fun K hK => ?_; simp only [go_sem, seval]; (repeat refine aI (hb := ?_)); refine hK _ ?_; clear hK K
 refine xf_ (yu_ rfl ?_)
 rfl
theorem UR_ (o : List Int) (m : Int) (w : List (List (List Int))) (c : List (List Int)) : PureCall Tryz.prog 63 [.agg [.l1 o, .int m, .l3 w, .l2 c]] (.bool (bd (zv_ o m w c))) := by
 have hI := K5_ o m w
 unfold UV_ at hI
 by_cases h : wM_ o m w
 ·have hP := W1_ w.length m c h.1.n8.2 h.1.2.2.1 h.1.2.2.2.1
  have e : bd (wq_ w.length m c) = bd (zv_ o m w c) := by
   by_cases hp : wq_ w.length m c
   ·rw [xS_ hp, xS_ (show zv_ o m w c from ⟨h, hp⟩)]
   ·rw [xz_ hp, xz_ (fun h' : zv_ o m w c => hp h'.2)]
  rw [xS_ h] at hI
  rw [e] at hP
  refine gPC 18 [.tmp 2] Tryz.call63 Tryz.func63 fun cx hcx => gE ?_
  refine gA ?_
  refine gC fun K hK => ?_
  refine gU ?_
  first | refine xc_ (hI) rfl ?_ | refine xd_ (xa_ (hI) rfl) ?_
  refine gW ?_
  first | refine xc_ (hP) rfl ?_ | refine xd_ (xa_ (hP) rfl) ?_
  refine gW ?_
  refine hK _ ?_; clear hK K
  refine xf_ (yu_ rfl ?_)
  rfl
 ·rw [xz_ h] at hI
  have e : bd (zv_ o m w c) = false := xz_ (fun h' => h h'.1)
  refine gPC 18 [.tmp 2] Tryz.call63 Tryz.func63 fun cx hcx => gE ?_
  refine gA ?_
  refine gC fun K hK => ?_
  refine gU ?_
  first | refine xc_ (hI) rfl ?_ | refine xd_ (xa_ (hI) rfl) ?_
  refine gW ?_
  refine xd_ (v := .bool false) (by first | trivial | (intro h; cases h)) ?_
  refine gV ?_
  refine hK _ ?_; clear hK K
  refine xf_ (yu_ rfl ?_)
  rw [e]
theorem W2_ (o : List Int) (m : Int) (w : List (List (List Int))) (c : List (List Int)) : PureCall Tryz.prog 61 [.agg [.l1 o, .int m, .l3 w, .l2 c]] (.bool (bd (zv_ o m w c))) := by
 have hI := VR_ o m w
 unfold UV_ at hI
 by_cases h : wM_ o m w
 ·have hP := YH_ w.length m c h.1.n8.2 h.1.2.2.1 h.1.2.2.2.1
  have e : bd (wq_ w.length m c) = bd (zv_ o m w c) := by
   by_cases hp : wq_ w.length m c
   ·rw [xS_ hp, xS_ (show zv_ o m w c from ⟨h, hp⟩)]
   ·rw [xz_ hp, xz_ (fun h' : zv_ o m w c => hp h'.2)]
  rw [xS_ h] at hI
  rw [e] at hP
  refine gPC 18 [.tmp 2] Tryz.call61 Tryz.func61 fun cx hcx => gE ?_
  refine gA ?_
  refine gC fun K hK => ?_
  refine gU ?_
  first | refine xc_ (hI) rfl ?_ | refine xd_ (xa_ (hI) rfl) ?_
  refine gW ?_
  first | refine xc_ (hP) rfl ?_ | refine xd_ (xa_ (hP) rfl) ?_
  refine gW ?_
  refine hK _ ?_; clear hK K
  refine xf_ (yu_ rfl ?_)
  rfl
 ·rw [xz_ h] at hI
  have e : bd (zv_ o m w c) = false := xz_ (fun h' => h h'.1)
  refine gPC 18 [.tmp 2] Tryz.call61 Tryz.func61 fun cx hcx => gE ?_
  refine gA ?_
  refine gC fun K hK => ?_
  refine gU ?_
  first | refine xc_ (hI) rfl ?_ | refine xd_ (xa_ (hI) rfl) ?_
  refine gW ?_
  refine xd_ (v := .bool false) (by first | trivial | (intro h; cases h)) ?_
  refine gV ?_
  refine hK _ ?_; clear hK K
  refine xf_ (yu_ rfl ?_)
  rw [e]
end Go.Proofs.YtjbdiekkjegckaaGreat
namespace Go.Proofs.YtjbdiekkjegckaaGreat
open Go Go.Aw Go.Pl
attribute [local go_sem] y9_ yB_ za_ zb_ wE_ yq_ List.getElem?_toArray List.getElem?_cons_zero List.getElem?_cons_succ
theorem TH_ {o : List Int} {m : Int} {w : List (List (List Int))} {c : List (List Int)} {q x y z : Nat} (h : brV o w c q x y z % m = 0) : bfG o m w c q x y z = none := if_neg (fun h' => h' h)
theorem R7_ {o : List Int} {m : Int} {w : List (List (List Int))} {c : List (List Int)} {v : List Int} (h : bfF o m w c = some v) : v.length = 4 :=
 yC_ (P := fun v => v.length = 4) h fun x u hx => yC_ (P := fun v => v.length = 4) hx fun y u hy => yC_ (P := fun v => v.length = 4) hy fun z u hz => yC_ (P := fun v => v.length = 4) hz fun t u ht => by
  unfold bfG at ht
  split at ht <;> cases ht
  rfl
set_option maxRecDepth 100000 in
set_option maxHeartbeats 8000000 in
theorem US_ (o : List Int) (m : Int) (w : List (List (List Int))) (c : List (List Int)) (h : CocS o m w) (hb : GridB w.length m c) : PureCall Tryz.prog 64 [.agg [.l1 o, .int m, .l3 w], .l2 c] (RG_ (bfF o m w c)) := by
 have n8 := h.n8
 have lc := hb.1
 refine gPC 60 [.tmp 4] Tryz.call64 Tryz.func64 fun cx hcx => gE ?_
 refine gA ?_
 refine gB ?_
 refine gB ?_
 rw [lc]
 (repeat refine xb_ ?_); refine xt_ (fun q : Nat => ⟨[(1, .l2 c), (2, .bptr 0 0), (5, .int w.length), (6, .int ((q : Int) + 1))], [(0, .bx [.l1 o, .int m, .l3 w])]⟩) (fun q => q ≤ 2 ∧ ∀ a, a < q → first w.length (fun x => first w.length fun y => first w.length (bfG o m w c a x y)) = none) (fun q => 2 - q) 0 ⟨Nat.zero_le _, fun a h => absurd h (Nat.not_lt_zero a)⟩ (by
  refine And.intro ?_ rfl; simp only [leS, Nat.reduceEqDiff, ↓reduceIte, true_and, and_true]
  first | exact ⟨rfl, rfl⟩ | rfl) (fun q hq => ?_)
 obtain ⟨hq, Hq⟩ := hq
 refine gB ?_
 refine gI (fun hlq => ?_) fun hlq => ?_
 ·refine xe_ ?_
  refine gO ?_
  refine gA ?_
  (repeat refine xb_ ?_); refine xt_ (fun i : Nat => ⟨[(1, .l2 c), (2, .bptr 0 0), (5, .int w.length), (6, .int ((q : Int) + 1)), (7, .int i)], [(0, .bx [.l1 o, .int m, .l3 w])]⟩) (fun i => i ≤ w.length ∧ ∀ b, b < i → first w.length (fun y => first w.length (bfG o m w c q b y)) = none) (fun i => w.length - i) 0 ⟨Nat.zero_le _, fun a h => absurd h (Nat.not_lt_zero a)⟩ (by refine And.intro ?_ rfl; simp only [leS, Nat.reduceEqDiff, ↓reduceIte, true_and, and_true]; rfl) (fun i hi => ?_); obtain ⟨hi, Hi⟩ := hi
  refine gA ?_
  refine gI (fun hli => ?_) fun hli => ?_
  ·refine xe_ ?_
   refine gO ?_
   refine gA ?_
   (repeat refine xb_ ?_); refine xt_ (fun j : Nat => ⟨[(1, .l2 c), (2, .bptr 0 0), (5, .int w.length), (6, .int ((q : Int) + 1)), (7, .int i), (8, .int j)], [(0, .bx [.l1 o, .int m, .l3 w])]⟩) (fun j => j ≤ w.length ∧ ∀ b, b < j → first w.length (bfG o m w c q i b) = none) (fun j => w.length - j) 0 ⟨Nat.zero_le _, fun a h => absurd h (Nat.not_lt_zero a)⟩ (by refine And.intro ?_ rfl; simp only [leS, Nat.reduceEqDiff, ↓reduceIte, true_and, and_true]; rfl) (fun j hj => ?_); obtain ⟨hj, Hj⟩ := hj
   refine gA ?_
   refine gI (fun hlj => ?_) fun hlj => ?_
   ·refine xe_ ?_
    refine gO ?_
    refine gA ?_
    (repeat refine xb_ ?_); refine xt_ (fun k : Nat => ⟨[(1, .l2 c), (2, .bptr 0 0), (5, .int w.length), (6, .int ((q : Int) + 1)), (7, .int i), (8, .int j), (9, .int k)], [(0, .bx [.l1 o, .int m, .l3 w])]⟩) (fun k => k ≤ w.length ∧ ∀ b, b < k → bfG o m w c q i j b = none) (fun k => w.length - k) 0 ⟨Nat.zero_le _, fun a h => absurd h (Nat.not_lt_zero a)⟩ (by refine And.intro ?_ rfl; simp only [leS, Nat.reduceEqDiff, ↓reduceIte, true_and, and_true]; rfl) (fun k hk => ?_); obtain ⟨hk, Hk⟩ := hk
    refine gA ?_
    refine gI (fun hlk => ?_) fun hlk => ?_
    ·have h1 := R5_ o m w c h hb i j k (by omega) (by omega) (by omega)
     have h2 := R6_ o m w c h hb i j k (by omega) (by omega) (by omega)
     refine xe_ ?_
     refine gO ?_
     refine gC fun K hK => ?_
     refine gU ?_
     first | refine xd_ (fun _ => xa_ (h1) rfl) ?_ | refine xd_ (xa_ (h1) rfl) ?_
     refine gW ?_
     first | refine xd_ (fun _ => xa_ (h2) rfl) ?_ | refine xd_ (xa_ (h2) rfl) ?_
     refine gW ?_
     refine hK _ ?_; clear hK K
     have hqq : q = 0 ∨ q = 1 := by omega
     refine gI (fun hne => ?_) fun hne => ?_
     ·refine gB ?_
      have hv : brV o w c q i j k % m ≠ 0 := by
       rcases hqq with rfl | rfl
       ·simp at hne; exact hne
       ·simp at hne; exact hne
      have e : bfF o m w c = some [(q : Int) + 1, (i : Int), (j : Int), (k : Int)] := first_some (by omega) Hq (first_some (by omega) Hi (first_some (by omega) Hj (first_some (by omega) Hk (if_pos hv))))
      exact xf_ (ac5 rfl ⟨rfl, trivial⟩ (by rw [e]; rfl))
     ·have hv : brV o w c q i j k % m = 0 := by
       rcases hqq with rfl | rfl
       ·simp at hne; exact hne
       ·simp at hne; exact hne
      refine xe_ ?_
      refine gB ?_
      refine ⟨k + 1, ⟨by omega, fun a ha => by rcases Nat.lt_succ_iff_lt_or_eq.1 ha with h | rfl; exact Hk a h; exact TH_ hv⟩, by omega, .inl ⟨?_, rfl⟩⟩; simp only [leS, Nat.reduceEqDiff, ↓reduceIte, true_and, and_true]; omega
    ·refine xh_ (x9_ (xJ_ (Yt_ ?_)))
     refine gB ?_
     refine ⟨j + 1, ⟨by omega, fun a ha => by rcases Nat.lt_succ_iff_lt_or_eq.1 ha with h | rfl; exact Hj a h; exact xB_ (fun k hk => Hk k (by omega))⟩, by omega, .inl ⟨?_, rfl⟩⟩; simp only [leS, Nat.reduceEqDiff, ↓reduceIte, true_and, and_true]; omega
   ·refine xh_ (x9_ (xJ_ (Yt_ ?_)))
    refine gB ?_
    refine ⟨i + 1, ⟨by omega, fun a ha => by rcases Nat.lt_succ_iff_lt_or_eq.1 ha with h | rfl; exact Hi a h; exact xB_ (fun k hk => Hj k (by omega))⟩, by omega, .inl ⟨?_, rfl⟩⟩; simp only [leS, Nat.reduceEqDiff, ↓reduceIte, true_and, and_true]; omega
  ·refine xh_ (x9_ (xJ_ (Yt_ ?_)))
   refine gB ?_
   refine ⟨q + 1,  ⟨by omega, fun a ha => by rcases Nat.lt_succ_iff_lt_or_eq.1 ha with h | rfl; exact Hq a h; exact xB_ (fun k hk => Hi k (by omega))⟩, by omega, .inl ⟨by simp only [leS, Nat.reduceEqDiff, ↓reduceIte, true_and, and_true]; (first | omega | (push_cast; omega) | skip),  rfl⟩⟩
 ·obtain rfl : q = 2 := by omega
  refine xh_ (x9_ ?_)
  refine gA ?_
  have e : bfF o m w c = none := xB_ (fun k hk => Hq k (by omega))
  exact xf_ (ac5 rfl ⟨rfl, trivial⟩ (by rw [e]; rfl))
theorem TI_ (o : List Int) (m : Int) (w : List (List (List Int))) (c : List (List Int)) : PureCall Tryz.prog 29 [.agg [.l1 o, .int m, .l3 w, .l2 c]] (.bool (Zl_ o m w c)) := by
 have hS := UR_ o m w c
 unfold Zl_
 by_cases h : zv_ o m w c
 ·have hF := US_ o m w c h.1.1 h.2.1
  rw [xS_ h] at hS
  cases hf : bfF o m w c with
  | none =>
   rw [hf] at hF
   simp only [RG_] at hF
   rw [xS_ (show zv_ o m w c ∧ (none : Option (List Int)) = none from ⟨h, rfl⟩)]
   refine gPC 14 [.tmp 2] Tryz.call29 Tryz.func29 fun cx hcx => gE ?_
   refine gA ?_
   refine gC fun K hK => ?_
   first | refine xc_ (hS) rfl ?_ | refine xd_ (xa_ (hS) rfl) ?_
   refine gW ?_
   first | refine xc_ (hF) rfl ?_ | refine xd_ (xa_ (hF) rfl) ?_
   refine gW ?_
   refine hK _ ?_; clear hK K
   refine xf_ (yu_ rfl ?_)
   rfl
  | some v =>
   have hl := R7_ hf
   rw [hf] at hF
   simp only [RG_] at hF
   rw [xz_ (fun h : zv_ o m w c ∧ some v = none => by cases h.2)]
   refine gPC 14 [.tmp 2] Tryz.call29 Tryz.func29 fun cx hcx => gE ?_
   refine gA ?_
   refine gC fun K hK => ?_
   first | refine xc_ (hS) rfl ?_ | refine xd_ (xa_ (hS) rfl) ?_
   refine gW ?_
   first | refine xc_ (hF) rfl ?_ | refine xd_ (xa_ (hF) rfl) ?_
   refine gW ?_
   refine hK _ ?_; clear hK K
   refine xf_ (yu_ rfl ?_)
   simp [hl]
 ·rw [xz_ h] at hS
  rw [xz_ (fun h' => h h'.1)]
  refine gPC 14 [.tmp 2] Tryz.call29 Tryz.func29 fun cx hcx => gE ?_
  refine gA ?_
  refine gC fun K hK => ?_
  first | refine xc_ (hS) rfl ?_ | refine xd_ (xa_ (hS) rfl) ?_
  refine gW ?_
  refine xd_ (v := .nil) (by first | trivial | (intro h; cases h)) ?_
  refine gV ?_
  refine hK _ ?_; clear hK K
  refine xf_ (yu_ rfl ?_)
  first | done | rfl
set_option maxRecDepth 100000 in
set_option maxHeartbeats 8000000 in
theorem K6_ (o : List Int) (m : Int) (w : List (List (List Int))) (c : List (List Int)) (h : CocS o m w) (hb : GridB w.length m c) (q x y z : Nat) (hq : q < 2) (hx : x < w.length) (hy : y < w.length) (hz : z < w.length) : PureCall Tryz.prog 89 [.agg [.l1 o, .int m, .l3 w, .l2 c], .int ((q : Int) + 1), .int x, .int y, .int z] (.bool (decide (brV o w c q x y z % m = 0))) := by
 have n8 := h.n8
 have m1 := h.2.2.1
 have m2 := h.2.2.2.1
 have hc := h.2.2.2.2.2
 have lc := hb.1
 have hqq : q = 0 ∨ q = 1 := by omega
 rcases hqq with rfl | rfl
 ·have hA := Z2_ o m w h.1 h.2.1 y z (by omega) (by omega)
  have hp := h.ad y z
  have hR1 := zB_ o m w (e3 w y z x + e2 c x (ad o y z) + e3 w x y z) m1 m2
  have hR2 := zB_ o m w (e2 c x z + e3 w y x z + e2 c x y) m1 m2
  have ed : decide ((e3 w y z x + e2 c x (ad o y z) + e3 w x y z) % m = (e2 c x z + e3 w y x z + e2 c x y) % m) = decide (brV o w c 0 x y z % m = 0) := by
   refine decide_eq_decide.2 ?_
   rw [← sub_zero]
   unfold brV br1
   rw [if_pos rfl]
   constructor <;> intro h <;> rw [← h] <;> congr 1 <;> omega
  rw [← ed]
  obtain ⟨p, ep⟩ : ∃ p, ad o y z = p := ⟨_, rfl⟩
  rw [ep] at hA hp hR1 ⊢
  have mq := hc.mat (i := y) (by omega)
  have rq := hc.row (i := y) (j := z) (by omega) (by omega)
  have vq := hc.bd (i := y) (j := z) (k := x) (by omega) (by omega) (by omega)
  have md := hc.mat (i := x) (by omega)
  have rd := hc.row (i := x) (j := y) (by omega) (by omega)
  have vd := hc.bd (i := x) (j := y) (k := z) (by omega) (by omega) (by omega)
  have rg := hc.row (i := y) (j := x) (by omega) (by omega)
  have vg := hc.bd (i := y) (j := x) (k := z) (by omega) (by omega) (by omega)
  have c1 := hb.row (j := x) (by omega)
  have u1 := hb.bd (j := x) (k := p) (by omega) (by omega)
  have u2 := hb.bd (j := x) (k := z) (by omega) (by omega)
  have u3 := hb.bd (j := x) (k := y) (by omega) (by omega)
  simp only [e3, e2] at vq vd vg u1 u2 u3 hR1 hR2 ⊢
  refine gPC 149 [.tmp 10] Tryz.call89 Tryz.func89 fun cx hcx => gE ?_
  refine gA ?_
  (repeat refine xb_ ?_)
  refine xZ_ [] (.one 0 (.one 1 (.one 2 (.one 3 (.one 4 (.one 5 (.one 6 (.alt 7 (.one 8 (.one 9 (.alt 10 .fin .stop))) .stop)))))))) ⟨[(1, .int 1), (2, .int x), (3, .int y), (4, .int z), (5, .bptr 0 0), (11, .l3 w), (12, .l2 c), (13, .bptr 1 0)], [(0, .bx [.l1 o, .int m, .l3 w, .l2 c]), (1, .bx [.l1 o, .int m, .l3 w])]⟩ (xO_ hcx) mixed (by kernel_rfl) (fun K hK => ?_) ?_
  ·simp only [go_sem, seval, Option.getD_some, and_true, true_and, and_self, List.contains_cons, List.contains_nil, Bool.or_false, Bool.or_true]
   repeat' (first | exact hK _ gM  | with_reducible refine And.intro ?_ ?_ | omega | (refine xq_ rfl () rfl ?_; simp only [go_sem, seval, Option.getD_some, and_true, true_and, and_self, List.contains_cons, List.contains_nil, Bool.or_false, Bool.or_true]))
  refine gA ?_
  refine gR ?_
  (repeat refine xb_ ?_); refine xI_ (xO_ hcx) mixed (by kernel_rfl) fun K hK => ?_; simp only [go_sem, seval]
  refine gU ?_
  first | refine xc_ (hA) rfl ?_ | refine xd_ (xa_ (hA) rfl) ?_
  refine gW ?_
  first | refine xc_ (hR1) rfl ?_ | refine xd_ (xa_ (hR1) rfl) ?_
  refine gW ?_
  first | refine xc_ (hR2) rfl ?_ | refine xd_ (xa_ (hR2) rfl) ?_
  refine gW ?_
  refine hK _ ?_; clear hK K
  refine xf_ (yu_ rfl ?_)
  rfl
 ·have hA := Z2_ o m w h.1 h.2.1 x y (by omega) (by omega)
  have hp := h.ad x y
  have hR1 := zB_ o m w (e2 c (ad o x y) z - e3 w z x y - e3 w x y z) m1 m2
  have hR2 := zB_ o m w (e2 c x z + e2 c y z - e3 w x z y) m1 m2
  have ed : decide ((e2 c (ad o x y) z - e3 w z x y - e3 w x y z) % m = (e2 c x z + e2 c y z - e3 w x z y) % m) = decide (brV o w c 1 x y z % m = 0) := by
   refine decide_eq_decide.2 ?_
   rw [← sub_zero]
   unfold brV br2
   rw [if_neg (by decide)]
   constructor <;> intro h <;> rw [← h] <;> congr 1 <;> omega
  rw [← ed]
  obtain ⟨p, ep⟩ : ∃ p, ad o x y = p := ⟨_, rfl⟩
  rw [ep] at hA hp hR1 ⊢
  have mq := hc.mat (i := z) (by omega)
  have rq := hc.row (i := z) (j := x) (by omega) (by omega)
  have vq := hc.bd (i := z) (j := x) (k := y) (by omega) (by omega) (by omega)
  have md := hc.mat (i := x) (by omega)
  have rd := hc.row (i := x) (j := y) (by omega) (by omega)
  have vd := hc.bd (i := x) (j := y) (k := z) (by omega) (by omega) (by omega)
  have rg := hc.row (i := x) (j := z) (by omega) (by omega)
  have vg := hc.bd (i := x) (j := z) (k := y) (by omega) (by omega) (by omega)
  have c1 := hb.row (j := p) (by omega)
  have u1 := hb.bd (j := p) (k := z) (by omega) (by omega)
  have c2 := hb.row (j := x) (by omega)
  have u2 := hb.bd (j := x) (k := z) (by omega) (by omega)
  have c3 := hb.row (j := y) (by omega)
  have u3 := hb.bd (j := y) (k := z) (by omega) (by omega)
  simp only [e3, e2] at vq vd vg u1 u2 u3 hR1 hR2 ⊢
  refine gPC 149 [.tmp 10] Tryz.call89 Tryz.func89 fun cx hcx => gE ?_
  refine gA ?_
  (repeat refine xb_ ?_)
  refine xZ_ [] (.one 0 (.one 1 (.one 2 (.one 3 (.one 4 (.one 5 (.one 6 (.alt 7 (.one 8 (.one 9 (.alt 10 .fin .stop))) .stop)))))))) ⟨[(1, .int 2), (2, .int x), (3, .int y), (4, .int z), (5, .bptr 0 0), (11, .l3 w), (12, .l2 c), (13, .bptr 1 0)], [(0, .bx [.l1 o, .int m, .l3 w, .l2 c]), (1, .bx [.l1 o, .int m, .l3 w])]⟩ (xO_ hcx) mixed (by kernel_rfl) (fun K hK => ?_) ?_
  ·simp only [go_sem, seval, Option.getD_some, and_true, true_and, and_self, List.contains_cons, List.contains_nil, Bool.or_false, Bool.or_true]
   repeat' (first | exact hK _ gM  | with_reducible refine And.intro ?_ ?_ | omega | (refine xq_ rfl () rfl ?_; simp only [go_sem, seval, Option.getD_some, and_true, true_and, and_self, List.contains_cons, List.contains_nil, Bool.or_false, Bool.or_true]))
  refine gA ?_
  refine gQ ?_
  refine xe_ ?_
  (repeat refine xb_ ?_); refine xI_ (xO_ hcx) mixed (by kernel_rfl) fun K hK => ?_; simp only [go_sem, seval]
  refine gU ?_
  first | refine xc_ (hA) rfl ?_ | refine xd_ (xa_ (hA) rfl) ?_
  refine gW ?_
  first | refine xc_ (hR1) rfl ?_ | refine xd_ (xa_ (hR1) rfl) ?_
  refine gW ?_
  first | refine xc_ (hR2) rfl ?_ | refine xd_ (xa_ (hR2) rfl) ?_
  refine gW ?_
  refine hK _ ?_; clear hK K
  refine xf_ (yu_ rfl ?_)
  rfl
set_option maxRecDepth 100000 in
set_option maxHeartbeats 8000000 in
theorem R8_ (o : List Int) (m : Int) (w : List (List (List Int))) (c : List (List Int)) (h : CocS o m w) (hb : GridB w.length m c) : PureCall Tryz.prog 62 [.agg [.l1 o, .int m, .l3 w, .l2 c]] (RG_ (bfF o m w c)) := by
 have n8 := h.n8
 have lc := hb.1
 refine gPC 44 [.tmp 2] Tryz.call62 Tryz.func62 fun cx hcx => gE ?_
 refine gA ?_
 refine gB ?_
 (repeat refine xb_ ?_); refine xt_ (fun q : Nat => ⟨[(1, .bptr 0 0), (3, .int ((q : Int) + 1))], [(0, .bx [.l1 o, .int m, .l3 w, .l2 c])]⟩) (fun q => q ≤ 2 ∧ ∀ a, a < q → first w.length (fun x => first w.length fun y => first w.length (bfG o m w c a x y)) = none) (fun q => 2 - q) 0 ⟨Nat.zero_le _, fun a h => absurd h (Nat.not_lt_zero a)⟩ (by
  refine And.intro ?_ rfl; simp only [leS, Nat.reduceEqDiff, ↓reduceIte, true_and, and_true]
  first | exact ⟨rfl, rfl⟩ | rfl) (fun q hq => ?_)
 obtain ⟨hq, Hq⟩ := hq
 refine gB ?_
 refine gI (fun hlq => ?_) fun hlq => ?_
 ·refine xe_ ?_
  refine gO ?_
  refine gA ?_
  rw [lc]
  (repeat refine xb_ ?_); refine xt_ (fun i : Nat => ⟨[(1, .bptr 0 0), (3, .int ((q : Int) + 1)), (13, .int w.length), (14, .int i)], [(0, .bx [.l1 o, .int m, .l3 w, .l2 c])]⟩) (fun i => i ≤ w.length ∧ ∀ b, b < i → first w.length (fun y => first w.length (bfG o m w c q b y)) = none) (fun i => w.length - i) 0 ⟨Nat.zero_le _, fun a h => absurd h (Nat.not_lt_zero a)⟩ (by refine And.intro ?_ rfl; simp only [leS, Nat.reduceEqDiff, ↓reduceIte, true_and, and_true]; rfl) (fun i hi => ?_); obtain ⟨hi, Hi⟩ := hi
  refine gA ?_
  refine gI (fun hli => ?_) fun hli => ?_
  ·refine xe_ ?_
   refine gO ?_
   refine gA ?_
   refine gA ?_
   rw [lc]
   (repeat refine xb_ ?_); refine xt_ (fun j : Nat => ⟨[(1, .bptr 0 0), (3, .int ((q : Int) + 1)), (4, .int i), (13, .int w.length), (14, .int i), (19, .int w.length), (20, .int j)], [(0, .bx [.l1 o, .int m, .l3 w, .l2 c])]⟩) (fun j => j ≤ w.length ∧ ∀ b, b < j → first w.length (bfG o m w c q i b) = none) (fun j => w.length - j) 0 ⟨Nat.zero_le _, fun a h => absurd h (Nat.not_lt_zero a)⟩ (by refine And.intro ?_ rfl; simp only [leS, Nat.reduceEqDiff, ↓reduceIte, true_and, and_true]; rfl) (fun j hj => ?_); obtain ⟨hj, Hj⟩ := hj
   refine gA ?_
   refine gI (fun hlj => ?_) fun hlj => ?_
   ·refine xe_ ?_
    refine gO ?_
    refine gA ?_
    refine gA ?_
    rw [lc]
    (repeat refine xb_ ?_); refine xt_ (fun k : Nat => ⟨[(1, .bptr 0 0), (3, .int ((q : Int) + 1)), (4, .int i), (5, .int j), (13, .int w.length), (14, .int i), (19, .int w.length), (20, .int j), (25, .int w.length), (26, .int k)], [(0, .bx [.l1 o, .int m, .l3 w, .l2 c])]⟩) (fun k => k ≤ w.length ∧ ∀ b, b < k → bfG o m w c q i j b = none) (fun k => w.length - k) 0 ⟨Nat.zero_le _, fun a h => absurd h (Nat.not_lt_zero a)⟩ (by refine And.intro ?_ rfl; simp only [leS, Nat.reduceEqDiff, ↓reduceIte, true_and, and_true]; rfl) (fun k hk => ?_); obtain ⟨hk, Hk⟩ := hk
    refine gA ?_
    refine gI (fun hlk => ?_) fun hlk => ?_
    ·have h1 := K6_ o m w c h hb q i j k (by omega) (by omega) (by omega) (by omega)
     refine xe_ ?_
     refine gO ?_
     refine gA ?_
     refine gC fun K hK => ?_
     refine gU ?_
     first | refine xc_ (h1) rfl ?_ | refine xd_ (xa_ (h1) rfl) ?_
     refine gW ?_
     refine hK _ ?_; clear hK K
     refine gI (fun hne => ?_) fun hne => ?_
     ·refine gB ?_
      have hv : brV o w c q i j k % m ≠ 0 := by simpa using hne
      have e : bfF o m w c = some [(q : Int) + 1, (i : Int), (j : Int), (k : Int)] := first_some (by omega) Hq (first_some (by omega) Hi (first_some (by omega) Hj (first_some (by omega) Hk (if_pos hv))))
      exact xf_ (ac5 rfl ⟨rfl, trivial⟩ (by rw [e]; rfl))
     ·have hv : brV o w c q i j k % m = 0 := by simpa using hne
      refine xe_ ?_
      refine gB ?_
      refine ⟨k + 1, ⟨by omega, fun a ha => by rcases Nat.lt_succ_iff_lt_or_eq.1 ha with h | rfl; exact Hk a h; exact TH_ hv⟩, by omega, .inl ⟨?_, rfl⟩⟩; simp only [leS, Nat.reduceEqDiff, ↓reduceIte, true_and, and_true]; omega
    ·refine xh_ (x9_ (xJ_ (Yt_ ?_)))
     refine gB ?_
     refine ⟨j + 1, ⟨by omega, fun a ha => by rcases Nat.lt_succ_iff_lt_or_eq.1 ha with h | rfl; exact Hj a h; exact xB_ (fun k hk => Hk k (by omega))⟩, by omega, .inl ⟨?_, rfl⟩⟩; simp only [leS, Nat.reduceEqDiff, ↓reduceIte, true_and, and_true]; omega
   ·refine xh_ (x9_ (xJ_ (Yt_ ?_)))
    refine gB ?_
    refine ⟨i + 1, ⟨by omega, fun a ha => by rcases Nat.lt_succ_iff_lt_or_eq.1 ha with h | rfl; exact Hi a h; exact xB_ (fun k hk => Hj k (by omega))⟩, by omega, .inl ⟨?_, rfl⟩⟩; simp only [leS, Nat.reduceEqDiff, ↓reduceIte, true_and, and_true]; omega
  ·refine xh_ (x9_ (xJ_ (Yt_ ?_)))
   refine gB ?_
   refine ⟨q + 1,  ⟨by omega, fun a ha => by rcases Nat.lt_succ_iff_lt_or_eq.1 ha with h | rfl; exact Hq a h; exact xB_ (fun k hk => Hi k (by omega))⟩, by omega, .inl ⟨by simp only [leS, Nat.reduceEqDiff, ↓reduceIte, true_and, and_true]; (first | omega | (push_cast; omega) | skip),  rfl⟩⟩
 ·obtain rfl : q = 2 := by omega
  refine xh_ (x9_ ?_)
  refine gA ?_
  have e : bfF o m w c = none := xB_ (fun k hk => Hq k (by omega))
  exact xf_ (ac5 rfl ⟨rfl, trivial⟩ (by rw [e]; rfl))
theorem y3_ (o : List Int) (m : Int) (w : List (List (List Int))) (c : List (List Int)) : PureCall Tryz.prog 25 [.agg [.l1 o, .int m, .l3 w, .l2 c]] (.bool (Zl_ o m w c)) := by
 have hS := W2_ o m w c
 unfold Zl_
 by_cases h : zv_ o m w c
 ·have hF := R8_ o m w c h.1.1 h.2.1
  rw [xS_ h] at hS
  cases hf : bfF o m w c with
  | none =>
   rw [hf] at hF
   simp only [RG_] at hF
   rw [xS_ (show zv_ o m w c ∧ (none : Option (List Int)) = none from ⟨h, rfl⟩)]
   refine gPC 10 [.tmp 2] Tryz.call25 Tryz.func25 fun cx hcx => gE ?_
   refine gA ?_
   refine gC fun K hK => ?_
   first | refine xc_ (hS) rfl ?_ | refine xd_ (xa_ (hS) rfl) ?_
   refine gW ?_
   first | refine xc_ (hF) rfl ?_ | refine xd_ (xa_ (hF) rfl) ?_
   refine gW ?_
   refine hK _ ?_; clear hK K
   refine xf_ (yu_ rfl ?_)
   first | done | rfl
  | some v =>
   have hl := R7_ hf
   have hl0 : 0 < v.length := by omega
   rw [hf] at hF
   simp only [RG_] at hF
   rw [xz_ (fun h : zv_ o m w c ∧ some v = none => by cases h.2)]
   refine gPC 10 [.tmp 2] Tryz.call25 Tryz.func25 fun cx hcx => gE ?_
   refine gA ?_
   refine gC fun K hK => ?_
   first | refine xc_ (hS) rfl ?_ | refine xd_ (xa_ (hS) rfl) ?_
   refine gW ?_
   first | refine xc_ (hF) rfl ?_ | refine xd_ (xa_ (hF) rfl) ?_
   refine gW ?_
   refine hK _ ?_; clear hK K
   refine xf_ (yu_ rfl ?_)
   first | done | rfl
 ·rw [xz_ h] at hS
  rw [xz_ (fun h' => h h'.1)]
  refine gPC 10 [.tmp 2] Tryz.call25 Tryz.func25 fun cx hcx => gE ?_
  refine gA ?_
  refine gC fun K hK => ?_
  first | refine xc_ (hS) rfl ?_ | refine xd_ (xa_ (hS) rfl) ?_
  refine gW ?_
  refine xd_ (v := .nil) (by first | trivial | (intro h; cases h)) ?_
  refine gV ?_
  refine hK _ ?_; clear hK K
  refine xf_ (yu_ rfl ?_)
  first | done | rfl
end Go.Proofs.YtjbdiekkjegckaaGreat
namespace Go.Proofs.YtjbdiekkjegckaaGreat
open Go Go.Aw Go.Pl
theorem takeD {α : Type} {xs : List α} {d : α} {k : Nat} (h : k < xs.length) : xs.take (k + 1) = xs.take k ++ [xs.getD k d] := by
 rw [← List.take_append_getElem h, List.getD_eq_getElem?_getD, List.getElem?_eq_getElem h]
 rfl
theorem Zh_ (xs : List Int) (hl : xs.length ≤ 1099511627776) : FreshCall Tryz.prog 32 [.l1 xs] (.l1 xs) := by
 refine gFC 6 [.tmp 2] Tryz.call32 Tryz.func32 fun cx hcx => gE ?_
 refine gA ?_
 refine gC fun K hK => ?_
 refine gU ?_
 refine hK _ ?_; clear hK K
 exact xf_ (ai1 (is := [0]) rfl ⟨rfl, trivial⟩ rfl (by simp))
theorem XK_ (xs : List Int) (h1 : 0 < xs.length) (hl : xs.length ≤ 1099511627776) : FreshCall Tryz.prog 28 [.l1 xs] (.l1 xs) := by
 refine gFC 8 [.tmp 2] Tryz.call28 Tryz.func28 fun cx hcx => gE ?_
 refine gA ?_
 refine gB ?_
 refine gQ ?_
 refine xe_ ?_
 refine gC fun K hK => ?_
 refine gU ?_
 refine hK _ ?_; clear hK K
 exact xf_ (ai1 (is := [0]) rfl ⟨rfl, trivial⟩ rfl (by simp))
theorem K7_ (n : Nat) (m : Int) (h8 : n ≤ 8) (g : List (List Int)) (hm : GridB n m g) : FreshCall Tryz.prog 124 [.l2 g] (.l2 g) := by
 have lm := hm.1
 refine gFC 21 [.tmp 2] Tryz.call124 Tryz.func124 fun cx hcx => gE ?_
 refine gA ?_
 refine gA ?_
 refine gA ?_
 (repeat refine xb_ ?_); refine gLp (fun i : Nat => ⟨[(0, .l2 g), (3, .ref 0 []), (4, .int i)], [(0, .t2 (g.take i))]⟩) n fun i hi => ?_
 have lt : (g.take i).length = i := by rw [List.length_take]; omega
 refine gB ?_
 refine gI (fun h2 => ?_) fun h2 => ?_
 ·have ri := hm.row (show i < n by omega)
  have ho := Zh_ (g.getD i []) (by omega)
  have st := takeD (xs := g) (d := []) (k := i) (by omega)
  refine xe_ ?_
  refine gO ?_
  refine gC fun K hK => ?_
  refine gU ?_
  refine xq_ rfl (ho) rfl ?_; simp only [go_sem, seval]
  refine gU ?_
  refine hK _ ?_; clear hK K
  refine gB ?_
  refine ⟨i + 1,  by omega, by omega, .inl ⟨gH,  by rw [st]⟩⟩
 ·obtain rfl : i = n := by omega
  rw [List.take_of_length_le (by omega)]
  refine xh_ (x9_ ?_)
  refine gB ?_
  exact xf_ (ai1 (is := [0]) rfl ⟨rfl, trivial⟩ rfl (by simp))
theorem K8_ (w : List (List (List Int))) (m : Int) (h8 : w.length ≤ 8) (hc : CubB w.length m w) : FreshCall Tryz.prog 118 [.l3 w] (.l3 w) := by
 refine gFC 21 [.tmp 2] Tryz.call118 Tryz.func118 fun cx hcx => gE ?_
 refine gA ?_
 refine gA ?_
 refine gA ?_
 (repeat refine xb_ ?_); refine gLp (fun i : Nat => ⟨[(0, .l3 w), (3, .ref 0 []), (4, .int i)], [(0, .t3 (w.take i))]⟩) w.length fun i hi => ?_
 have lt : (w.take i).length = i := by rw [List.length_take]; omega
 refine gB ?_
 refine gI (fun h2 => ?_) fun h2 => ?_
 ·have ho := K7_ w.length m h8 (w.getD i []) (hc.2 i (by omega))
  have st := takeD (xs := w) (d := []) (k := i) (by omega)
  refine xe_ ?_
  refine gO ?_
  refine gC fun K hK => ?_
  refine gU ?_
  refine xq_ rfl (ho) rfl ?_; simp only [go_sem, seval]
  refine gU ?_
  refine hK _ ?_; clear hK K
  refine gB ?_
  refine ⟨i + 1,  by omega, by omega, .inl ⟨gH,  by rw [st]⟩⟩
 ·obtain rfl : i = w.length := by omega
  rw [List.take_of_length_le (by omega)]
  refine xh_ (x9_ ?_)
  refine gB ?_
  exact xf_ (ai1 (is := [0]) rfl ⟨rfl, trivial⟩ rfl (by simp))
theorem Zi_ (o : List Int) (m : Int) (w : List (List (List Int))) (o' : List Int) (m' : Int) (w' : List (List (List Int))) : PureCall Tryz.prog 47 [.agg [.l1 o, .int m, .l3 w], .agg [.l1 o', .int m', .l3 w']] (.bool (decide (o = o') && decide (m = m'))) := by
 refine gPC 17 [.tmp 4] Tryz.call47 Tryz.func47 fun cx hcx => gE ?_
 refine gA ?_
 refine gC fun K hK => ?_
 refine gU ?_
 first | refine xc_ (Yc_ o o') rfl ?_ | refine xd_ (xa_ (Yc_ o o') rfl) ?_
 refine gW ?_
 refine hK _ ?_; clear hK K
 refine xf_ (yu_ rfl ?_)
 rfl
end Go.Proofs.YtjbdiekkjegckaaGreat
