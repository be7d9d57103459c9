import Derived.Test.YtkdadpdmnmjikaaQd7
import Derived.Test.YtkdadpdmnmjikaaQd2
import Derived.Test.YtkdadpdmnmjikaaQd3
set_option linter.unusedSimpArgs false
set_option linter.unusedVariables false
namespace Go.Pl
open Go.Aw
def SpnP (l i j m : Nat) : Prop := absN i j ≤ m ∧ m ≤ i + j ∧ i + j + m ≤ 2 * l ∧ (i + j + m) % 2 = 0
instance (l i j m : Nat) : Decidable (SpnP l i j m) := by unfold SpnP; infer_instance
def spI (l : Nat) : Gf := fun i j m => if SpnP l i j m then 1 else 0
theorem absN_le {a b m : Nat} : absN a b ≤ m ↔ a ≤ m + b ∧ b ≤ m + a := by unfold absN; omega
theorem spP_iff {l i j m : Nat} : SpnP l i j m ↔ i ≤ m + j ∧ j ≤ m + i ∧ m ≤ i + j ∧ i + j + m ≤ 2 * l ∧ (i + j + m) % 2 = 0 := by
 unfold SpnP
 rw [absN_le]
 constructor
 ·rintro ⟨⟨a, b⟩, c, d, e⟩; exact ⟨a, b, c, d, e⟩
 ·rintro ⟨a, b, c, d, e⟩; exact ⟨⟨a, b⟩, c, d, e⟩
theorem cnt_iv {L U : Nat} : ∀ n : Nat, sumTo (fun m => if L ≤ m ∧ m ≤ U ∧ (L + m) % 2 = 0 then 1 else 0) n = if n ≤ L ∨ U < L then 0 else (((min (n - 1) U - L) / 2 + 1 : Nat) : Int)
 | 0 => by rw [if_pos (.inl (Nat.zero_le L))]; rfl
 | n + 1 => by
  have ih := cnt_iv (L := L) (U := U) n
  show sumTo _ n + (if L ≤ n ∧ n ≤ U ∧ (L + n) % 2 = 0 then 1 else 0) = _
  rw [ih]
  by_cases c1 : U < L
  ·rw [if_pos (show n ≤ L ∨ U < L from .inr c1), if_pos (show n + 1 ≤ L ∨ U < L from .inr c1), if_neg (show ¬ (L ≤ n ∧ n ≤ U ∧ (L + n) % 2 = 0) by omega)]; rfl
  ·by_cases c2 : n + 1 ≤ L
   ·rw [if_pos (show n ≤ L ∨ U < L by omega), if_pos (show n + 1 ≤ L ∨ U < L from .inl c2), if_neg (show ¬ (L ≤ n ∧ n ≤ U ∧ (L + n) % 2 = 0) by omega)]; rfl
   ·rw [if_neg (show ¬ (n + 1 ≤ L ∨ U < L) by omega)]
    by_cases c3 : n ≤ L
    ·rw [if_pos (show n ≤ L ∨ U < L from .inl c3), if_pos (show L ≤ n ∧ n ≤ U ∧ (L + n) % 2 = 0 by omega)]
     omega
    ·rw [if_neg (show ¬ (n ≤ L ∨ U < L) by omega)]
     by_cases c4 : L ≤ n ∧ n ≤ U ∧ (L + n) % 2 = 0
     ·rw [if_pos c4]; omega
     ·rw [if_neg c4]; omega
theorem quad {l i j k p L U L' U' : Int} (u1 : U ≤ i + j) (u2 : U ≤ k + p) (u3 : U ≤ 2 * l - (i + j)) (u4 : U ≤ 2 * l - (k + p))
  (l1 : i - j ≤ L) (l2 : j - i ≤ L) (l3 : k - p ≤ L) (l4 : p - k ≤ L)
  (hU : U' = j + k ∨ U' = i + p ∨ U' = 2 * l - (j + k) ∨ U' = 2 * l - (i + p)) (hL : L' = j - k ∨ L' = k - j ∨ L' = i - p ∨ L' = p - i) : U - L ≤ U' - L' := by
 rcases hU with rfl | rfl | rfl | rfl <;> rcases hL with rfl | rfl | rfl | rfl <;> omega
def spLw (i j k p : Nat) : Nat := max (absN i j) (absN k p)
def spUp (l i j k p : Nat) : Nat := min (min (i + j) (k + p)) (min (2 * l - (i + j)) (2 * l - (k + p)))
theorem sp_ends {l i j k p : Nat} (hi : i ≤ l) (hj : j ≤ l) (hk : k ≤ l) (hp : p ≤ l) :
  ((spUp l i j k p : Nat) : Int) - (spLw i j k p : Nat) ≤ ((spUp l j k i p : Nat) : Int) - (spLw j k i p : Nat) := by
 have a1 : absN i j = i - j ∧ j ≤ i ∨ absN i j = j - i ∧ i ≤ j := by unfold absN; omega
 have a2 : absN k p = k - p ∧ p ≤ k ∨ absN k p = p - k ∧ k ≤ p := by unfold absN; omega
 have a3 : absN j k = j - k ∧ k ≤ j ∨ absN j k = k - j ∧ j ≤ k := by unfold absN; omega
 have a4 : absN i p = i - p ∧ p ≤ i ∨ absN i p = p - i ∧ i ≤ p := by unfold absN; omega
 have u1 : spUp l i j k p ≤ i + j ∧ spUp l i j k p ≤ k + p ∧ spUp l i j k p ≤ 2 * l - (i + j) ∧ spUp l i j k p ≤ 2 * l - (k + p) := by unfold spUp; omega
 have l1 : absN i j ≤ spLw i j k p ∧ absN k p ≤ spLw i j k p := by unfold spLw; omega
 have u2 : spUp l j k i p = j + k ∨ spUp l j k i p = i + p ∨ spUp l j k i p = 2 * l - (j + k) ∨ spUp l j k i p = 2 * l - (i + p) := by unfold spUp; omega
 have l2 : spLw j k i p = absN j k ∨ spLw j k i p = absN i p := by unfold spLw; omega
 generalize spUp l i j k p = U at *
 generalize spLw i j k p = L at *
 generalize spUp l j k i p = U' at *
 generalize spLw j k i p = L' at *
 generalize absN i j = x1 at *
 generalize absN k p = x2 at *
 generalize absN j k = x3 at *
 generalize absN i p = x4 at *
 refine quad (l := l) (i := i) (j := j) (k := k) (p := p) (by omega) (by omega) (by omega) (by omega) (by omega) (by omega) (by omega) (by omega) ?_ ?_
 ·rcases u2 with h | h | h | h
  ·exact .inl (by omega)
  ·exact .inr (.inl (by omega))
  ·exact .inr (.inr (.inl (by omega)))
  ·exact .inr (.inr (.inr (by omega)))
 ·rcases l2 with h | h
  ·rcases a3 with ⟨h2, h3⟩ | ⟨h2, h3⟩
   ·exact .inl (by omega)
   ·exact .inr (.inl (by omega))
  ·rcases a4 with ⟨h2, h3⟩ | ⟨h2, h3⟩
   ·exact .inr (.inr (.inl (by omega)))
   ·exact .inr (.inr (.inr (by omega)))
theorem sp_both {l i j k p m : Nat} (hi : i ≤ l) (hj : j ≤ l) (hk : k ≤ l) (hp : p ≤ l) (he : (i + j + k + p) % 2 = 0) :
  (SpnP l i j m ∧ SpnP l k p m) ↔ spLw i j k p ≤ m ∧ m ≤ spUp l i j k p ∧ (spLw i j k p + m) % 2 = 0 := by
 have a1 : absN i j % 2 = (i + j) % 2 := by unfold absN; omega
 have a2 : absN k p % 2 = (k + p) % 2 := by unfold absN; omega
 have l2 : spLw i j k p = absN i j ∨ spLw i j k p = absN k p := by unfold spLw; omega
 have hL : spLw i j k p % 2 = (i + j) % 2 := by omega
 unfold SpnP
 have h1 : spLw i j k p ≤ m ↔ absN i j ≤ m ∧ absN k p ≤ m := by unfold spLw; exact Nat.max_le
 have h2 : m ≤ spUp l i j k p ↔ (m ≤ i + j ∧ m ≤ k + p) ∧ m ≤ 2 * l - (i + j) ∧ m ≤ 2 * l - (k + p) := by unfold spUp; rw [Nat.le_min, Nat.le_min, Nat.le_min]
 rw [h1, h2]
 clear h1 h2 l2 a1 a2
 generalize spLw i j k p = L at *
 generalize absN i j = x at *
 generalize absN k p = y at *
 constructor
 ·rintro ⟨⟨a, b, c, d⟩, e, f, g, h⟩
  refine ⟨⟨a, e⟩, ⟨⟨b, f⟩, ?_, ?_⟩, ?_⟩ <;> omega
 ·rintro ⟨⟨a, e⟩, ⟨⟨b, f⟩, c, d⟩, h⟩
  refine ⟨⟨a, b, ?_, ?_⟩, e, f, ?_, ?_⟩ <;> omega
theorem sp_sum {l i j k p : Nat} (hi : i ≤ l) (hj : j ≤ l) (hk : k ≤ l) (hp : p ≤ l) (he : (i + j + k + p) % 2 = 0) :
  sumTo (fun m => spI l i j m * spI l k p m) (l + 1) = if spUp l i j k p < spLw i j k p then 0 else (((spUp l i j k p - spLw i j k p) / 2 + 1 : Nat) : Int) := by
 have hL : spLw i j k p ≤ l := by unfold spLw absN; omega
 have hU : spUp l i j k p ≤ l := by unfold spUp; omega
 have e : sumTo (fun m => spI l i j m * spI l k p m) (l + 1) = sumTo (fun m => if spLw i j k p ≤ m ∧ m ≤ spUp l i j k p ∧ (spLw i j k p + m) % 2 = 0 then 1 else 0) (l + 1) := sum_congr fun m _ => by
  rw [← ite_iff (sp_both (m := m) hi hj hk hp he)]
  unfold spI
  by_cases c1 : SpnP l i j m
  ·by_cases c2 : SpnP l k p m
   ·rw [if_pos c1, if_pos c2, if_pos ⟨c1, c2⟩]; rfl
   ·rw [if_pos c1, if_neg c2, if_neg fun h => c2 h.2]; rfl
  ·rw [if_neg c1, Int.zero_mul, if_neg fun h => c1 h.1]
 rw [e, cnt_iv]
 by_cases c : spUp l i j k p < spLw i j k p
 ·rw [if_pos (.inr c), if_pos c]
 ·rw [if_neg (by omega), if_neg c]
  congr 3
  omega
theorem sp_no {l i j k p m : Nat} (he : ¬ (i + j + k + p) % 2 = 0) : spI l i j m * spI l k p m = 0 := by
 unfold spI
 by_cases c1 : SpnP l i j m
 ·by_cases c2 : SpnP l k p m
  ·have := c1.2.2.2
   have := c2.2.2.2
   omega
  ·rw [if_neg c2, Int.mul_zero]
 ·rw [if_neg c1, Int.zero_mul]
theorem sp_rot {l i j m : Nat} : spI l i j m = spI l j m i := ite_iff (by rw [spP_iff, spP_iff]; omega)
theorem sp_comm {l i j m : Nat} : spI l i j m = spI l j i m := ite_iff (by rw [spP_iff, spP_iff]; omega)
theorem sp_brack {l i j k p : Nat} (hi : i ≤ l) (hj : j ≤ l) (hk : k ≤ l) (hp : p ≤ l) :
  sumTo (fun m => spI l i j m * spI l m k p) (l + 1) = sumTo (fun m => spI l j k m * spI l i m p) (l + 1) := by
 have e1 : sumTo (fun m => spI l i j m * spI l m k p) (l + 1) = sumTo (fun m => spI l i j m * spI l k p m) (l + 1) := sum_congr fun m _ => by rw [sp_rot (i := m)]
 have e2 : sumTo (fun m => spI l j k m * spI l i m p) (l + 1) = sumTo (fun m => spI l j k m * spI l i p m) (l + 1) := sum_congr fun m _ => by rw [sp_comm (i := i), sp_rot (i := m)]
 rw [e1, e2]
 by_cases he : (i + j + k + p) % 2 = 0
 ·rw [sp_sum hi hj hk hp he, sp_sum hj hk hi hp (by omega)]
  have h1 := sp_ends hi hj hk hp
  have h2 := sp_ends (l := l) (i := j) (j := k) (k := i) (p := p) hj hk hi hp
  have h3 := sp_ends (l := l) (i := k) (j := i) (k := j) (p := p) hk hi hj hp
  have s1 : spUp l k i j p = spUp l i k j p := by unfold spUp; rw [Nat.add_comm k i]
  have s2 : spLw k i j p = spLw i k j p := by unfold spLw absN; omega
  generalize spUp l i j k p = U at *
  generalize spLw i j k p = L at *
  generalize spUp l j k i p = U' at *
  generalize spLw j k i p = L' at *
  have e : (U : Int) - L = U' - L' := by omega
  by_cases c : U < L
  ·rw [if_pos c, if_pos (by omega)]
  ·rw [if_neg c, if_neg (by omega)]
   congr 3
   omega
 ·rw [sum_congr (g := fun _ => 0) (f := fun m => spI l i j m * spI l k p m) fun m _ => sp_no he, sum_congr (g := fun _ => 0) (f := fun m => spI l j k m * spI l i p m) fun m _ => sp_no (by omega)]
theorem sum_even {f : Nat → Int} (h : ∀ m, m % 2 = 1 → f m = 0) : ∀ n : Nat, sumTo f (2 * n) = sumTo (fun m => f (2 * m)) n
 | 0 => rfl
 | n + 1 => by
  have ih := sum_even h n
  show sumTo f (2 * n) + f (2 * n) + f (2 * n + 1) = sumTo (fun m => f (2 * m)) n + f (2 * n)
  rw [ih, h (2 * n + 1) (by omega), Int.add_zero]
theorem sum_even' {f : Nat → Int} (h : ∀ m, m % 2 = 1 → f m = 0) (l : Nat) : sumTo f (l + 1) = sumTo (fun m => f (2 * m)) (l / 2 + 1) := by
 by_cases c : l % 2 = 0
 ·have e : l + 1 = 2 * (l / 2) + 1 := by omega
  rw [e]
  show sumTo f (2 * (l / 2)) + f (2 * (l / 2)) = sumTo (fun m => f (2 * m)) (l / 2) + f (2 * (l / 2))
  rw [sum_even h]
 ·have e : l + 1 = 2 * (l / 2 + 1) := by omega
  rw [e, sum_even h]
theorem sp_ringP {l : Nat} (h : l ≤ 15) : RingP (cubF (l + 1) (spI l)) := by
 refine ring_of (d := fun i => i) (by omega) (by omega) ?_ ?_ ?_ (fun i hi => hi) (fun i _ => rfl) ?_ ?_ ?_ ?_
 ·intro i _ j _ k _
  unfold InM spI
  split <;> decide
 ·intro i hi k hk
  rw [dl_ite]
  exact ite_iff (by rw [spP_iff]; omega)
 ·intro i hi k hk
  rw [dl_ite]
  exact ite_iff (by rw [spP_iff]; omega)
 ·intro i hi j hj
  exact ite_iff (by rw [spP_iff]; omega)
 ·intro i _ j _ k _
  exact ite_iff (by rw [spP_iff, spP_iff]; omega)
 ·intro i _ j _ k _
  exact ite_iff (by rw [spP_iff, spP_iff]; omega)
 ·intro i hi j hj k hk p hp
  exact sp_brack (by omega) (by omega) (by omega) (by omega)
def evI (l : Nat) : Gf := fun i j m => spI l (2 * i) (2 * j) (2 * m)
theorem ev_ringP {l : Nat} (h : l ≤ 31) : RingP (cubF (l / 2 + 1) (evI l)) := by
 refine ring_of (d := fun i => i) (by omega) (by omega) ?_ ?_ ?_ (fun i hi => hi) (fun i _ => rfl) ?_ ?_ ?_ ?_
 ·intro i _ j _ k _
  unfold InM evI spI
  split <;> decide
 ·intro i hi k hk
  rw [dl_ite]
  exact ite_iff (by rw [spP_iff]; omega)
 ·intro i hi k hk
  rw [dl_ite]
  exact ite_iff (by rw [spP_iff]; omega)
 ·intro i hi j hj
  exact ite_iff (by rw [spP_iff]; omega)
 ·intro i _ j _ k _
  exact ite_iff (by rw [spP_iff, spP_iff]; omega)
 ·intro i _ j _ k _
  exact ite_iff (by rw [spP_iff, spP_iff]; omega)
 ·intro i hi j hj k hk p hp
  have hz : ∀ a b m, m % 2 = 1 → spI l (2 * a) (2 * b) m = 0 := fun a b m hm => by
   unfold spI
   exact if_neg fun h => by have := h.2.2.2; omega
  have e1 := sum_even' (f := fun m => spI l (2 * i) (2 * j) m * spI l m (2 * k) (2 * p)) (fun m hm => by rw [hz i j m hm, Int.zero_mul]) l
  have e2 := sum_even' (f := fun m => spI l (2 * j) (2 * k) m * spI l (2 * i) m (2 * p)) (fun m hm => by rw [hz j k m hm, Int.zero_mul]) l
  show sumTo (fun m => spI l (2 * i) (2 * j) (2 * m) * spI l (2 * m) (2 * k) (2 * p)) (l / 2 + 1) = sumTo (fun m => spI l (2 * j) (2 * k) (2 * m) * spI l (2 * i) (2 * m) (2 * p)) (l / 2 + 1)
  rw [← e1, ← e2]
  exact sp_brack (by omega) (by omega) (by omega) (by omega)
def SpHit (l st i j z : Nat) : Prop := ∃ t, t < spCn l (i * st) (j * st) ∧ (spLo (i * st) (j * st) + 2 * t) / st = z
theorem spC_at {l st i j : Nat} {g : Gf} : ∀ c x y z, (x = i ∧ y = j ∧ (∃ t, t < c ∧ (spLo (i * st) (j * st) + 2 * t) / st = z) → spC l st i j c g x y z = 1) ∧
  (¬ (x = i ∧ y = j ∧ ∃ t, t < c ∧ (spLo (i * st) (j * st) + 2 * t) / st = z) → spC l st i j c g x y z = g x y z) := by
 intro c
 unfold spC
 refine it_inv (n := c) (f := fun t g => updG g i j ((spLo (i * st) (j * st) + 2 * t) / st) 1) (a := g) (P := fun c g' => ∀ x y z, (x = i ∧ y = j ∧ (∃ t, t < c ∧ (spLo (i * st) (j * st) + 2 * t) / st = z) → g' x y z = 1) ∧
  (¬ (x = i ∧ y = j ∧ ∃ t, t < c ∧ (spLo (i * st) (j * st) + 2 * t) / st = z) → g' x y z = g x y z)) ?_ ?_
 ·intro x y z
  exact ⟨fun ⟨_, _, t, ht, _⟩ => absurd ht (Nat.not_lt_zero t), fun _ => rfl⟩
 ·intro k _ g' hg x y z
  constructor
  ·rintro ⟨hx, hy, t, ht, e⟩
   unfold updG
   by_cases c1 : z = (spLo (i * st) (j * st) + 2 * k) / st
   ·rw [if_pos ⟨hx, hy, c1⟩]
   ·rw [if_neg fun h => c1 h.2.2]
    refine (hg x y z).1 ⟨hx, hy, t, ?_, e⟩
    by_cases c2 : t = k
    ·subst c2; exact absurd e.symm c1
    ·omega
  ·intro hn
   unfold updG
   rw [if_neg fun h => hn ⟨h.1, h.2.1, k, Nat.lt_succ_self k, h.2.2.symm⟩]
   exact (hg x y z).2 fun ⟨hx, hy, t, ht, e⟩ => hn ⟨hx, hy, t, by omega, e⟩
theorem spR_at {l st i : Nat} {g : Gf} : ∀ c x y z, (x = i ∧ y < c ∧ SpHit l st i y z → spR l st i c g x y z = 1) ∧ (¬ (x = i ∧ y < c ∧ SpHit l st i y z) → spR l st i c g x y z = g x y z) := by
 intro c
 unfold spR
 refine it_inv (n := c) (f := fun j g => spC l st i j (spCn l (i * st) (j * st)) g) (a := g) (P := fun c g' => ∀ x y z, (x = i ∧ y < c ∧ SpHit l st i y z → g' x y z = 1) ∧ (¬ (x = i ∧ y < c ∧ SpHit l st i y z) → g' x y z = g x y z)) ?_ ?_
 ·intro x y z
  exact ⟨fun ⟨_, h, _⟩ => absurd h (Nat.not_lt_zero y), fun _ => rfl⟩
 ·intro k _ g' hg x y z
  have hs := spC_at (l := l) (st := st) (i := i) (j := k) (g := g') (spCn l (i * st) (k * st)) x y z
  constructor
  ·rintro ⟨hx, hy, hh⟩
   by_cases c1 : y = k
   ·subst c1
    exact hs.1 ⟨hx, rfl, hh⟩
   ·rw [hs.2 fun h => c1 h.2.1]
    exact (hg x y z).1 ⟨hx, by omega, hh⟩
  ·intro hn
   rw [hs.2 fun ⟨hx, hy, hh⟩ => hn ⟨hx, by omega, by subst hy; exact hh⟩]
   exact (hg x y z).2 fun ⟨hx, hy, hh⟩ => hn ⟨hx, by omega, hh⟩
theorem spG_at {l st n : Nat} : ∀ c x y z, (x < c ∧ y < n ∧ SpHit l st x y z → spG l st n c x y z = 1) ∧ (¬ (x < c ∧ y < n ∧ SpHit l st x y z) → spG l st n c x y z = 0) := by
 intro c
 unfold spG
 refine it_inv (n := c) (f := fun i g => spR l st i n g) (a := zG) (P := fun c g' => ∀ x y z, (x < c ∧ y < n ∧ SpHit l st x y z → g' x y z = 1) ∧ (¬ (x < c ∧ y < n ∧ SpHit l st x y z) → g' x y z = 0)) ?_ ?_
 ·intro x y z
  exact ⟨fun ⟨h, _, _⟩ => absurd h (Nat.not_lt_zero x), fun _ => rfl⟩
 ·intro k _ g' hg x y z
  have hs := spR_at (l := l) (st := st) (i := k) (g := g') n x y z
  constructor
  ·rintro ⟨hx, hy, hh⟩
   by_cases c1 : x = k
   ·subst c1
    exact hs.1 ⟨rfl, hy, hh⟩
   ·rw [hs.2 fun h => c1 h.1]
    exact (hg x y z).1 ⟨by omega, hy, hh⟩
  ·intro hn
   rw [hs.2 fun ⟨hx, hy, hh⟩ => hn ⟨by omega, hy, by subst hx; exact hh⟩]
   exact (hg x y z).2 fun ⟨hx, hy, hh⟩ => hn ⟨by omega, hy, hh⟩
theorem hit_one {l i j z : Nat} (hi : i ≤ l) (hj : j ≤ l) : SpHit l 1 i j z ↔ SpnP l i j z := by
 unfold SpHit
 rw [Nat.mul_one, Nat.mul_one, spP_iff]
 constructor
 ·rintro ⟨t, ht, e⟩
  rw [Nat.div_one] at e
  unfold spCn spLo spHi at ht
  unfold spLo at e
  split at ht
  ·omega
  ·omega
 ·rintro ⟨h1, h2, h3, h4, h5⟩
  refine ⟨(z - spLo i j) / 2, ?_, ?_⟩
  ·unfold spCn spLo spHi
   split
   ·omega
   ·omega
  ·rw [Nat.div_one]
   unfold spLo
   omega
theorem hit_two {l i j z : Nat} (hi : 2 * i ≤ l) (hj : 2 * j ≤ l) : SpHit l 2 i j z ↔ SpnP l (2 * i) (2 * j) (2 * z) := by
 unfold SpHit
 rw [spP_iff]
 constructor
 ·rintro ⟨t, ht, e⟩
  unfold spCn spLo spHi at ht
  unfold spLo at e
  split at ht
  ·omega
  ·omega
 ·rintro ⟨h1, h2, h3, h4, h5⟩
  refine ⟨(2 * z - spLo (i * 2) (j * 2)) / 2, ?_, ?_⟩
  ·unfold spCn spLo spHi
   split
   ·omega
   ·omega
  ·unfold spLo
   omega
theorem spnT_one (l : Nat) : spnT l 1 = cubF (l + 1) (spI l) := by
 unfold spnT
 rw [Nat.div_one]
 refine cubF_congr fun i hi j hj k hk => ?_
 have h := spG_at (l := l) (st := 1) (n := l + 1) (l + 1) i j k
 unfold spI
 by_cases c : SpnP l i j k
 ·rw [if_pos c]
  exact h.1 ⟨hi, hj, (hit_one (by omega) (by omega)).2 c⟩
 ·rw [if_neg c]
  exact h.2 fun hh => c ((hit_one (by omega) (by omega)).1 hh.2.2)
theorem spnT_two (l : Nat) : spnT l 2 = cubF (l / 2 + 1) (evI l) := by
 unfold spnT
 refine cubF_congr fun i hi j hj k hk => ?_
 have h := spG_at (l := l) (st := 2) (n := l / 2 + 1) (l / 2 + 1) i j k
 unfold evI spI
 by_cases c : SpnP l (2 * i) (2 * j) (2 * k)
 ·rw [if_pos c]
  exact h.1 ⟨hi, hj, (hit_two (by omega) (by omega)).2 c⟩
 ·rw [if_neg c]
  exact h.2 fun hh => c ((hit_two (by omega) (by omega)).1 hh.2.2)
end Go.Pl
namespace Go.Pl
open Go.Aw
end Go.Pl
