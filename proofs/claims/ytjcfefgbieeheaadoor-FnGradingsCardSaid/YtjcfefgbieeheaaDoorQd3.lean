import Derived.Test.YtjcfefgbieeheaaDoorQd1
import Derived.Test.YtjcfefgbieeheaaDoorQd2
import Derived.Test.YtjcfefgbieeheaaDoorKp1
set_option linter.unusedSimpArgs false
set_option linter.unusedVariables false
namespace Go.Pl
variable {t : Cu}
theorem adU_turn (h : RingP t) {a x y : Nat} (ha : (adU t).testBit a = true) (hx : x < t.length) (hy : y < t.length) (ho : Oc t a x y) : ∃ b, b < t.length ∧ (adU t).testBit b = true ∧ Oc t x b y := by
 obtain ⟨hal, i, hi, hia⟩ := adU_bit.1 ha
 have hdi := h.dlt hi
 -- y in (i i*) x = i (i* x): q in i* x, y in i q
 obtain ⟨q, hq, hq1, hq2⟩ := (h.oc_assoc hi hdi hx hy).1 ⟨a, hal, hia, ho⟩
 have hdq := h.dlt hq
 -- q in i* x: i in x q*
 have h1 : Oc t x (dN t q) i := by
  have h2 := (h.oc_t1 hdi hx hq).1 hq1
  rw [h.dd hi] at h2
  exact (h.oc_t2 hi hq hx).1 h2
 -- y in i q, i in x q*: y in x (q* q)
 obtain ⟨b, hb, hb1, hb2⟩ := (h.oc_assoc hx hdq hq hy).1 ⟨i, hi, h1, hq2⟩
 refine ⟨b, hb, adU_bit.2 ⟨hb, dN t q, hdq, ?_⟩, hb2⟩
 rw [h.dd hq]
 exact hb1
theorem adj_turn (h : RingP t) {a x y : Nat} (ha : (adj t).testBit a = true) (hx : x < t.length) (hy : y < t.length) (ho : Oc t a x y) : CoR t (adj t) x y := by
 have hE := co_eqv h (adj_clos h)
 have hC : ClosP t (setN t.length fun a => ∀ x, x < t.length → ∀ y, y < t.length → Oc t a x y → CoR t (adj t) x y) := by
  refine ⟨setN_lt, setN_bit.2 ⟨h.pos, fun x hx y hy ho => ?_⟩, fun a ha hb => ?_, fun a ha b hb c hc h1 h2 h3 => ?_⟩
  ·rw [(h.oc_left hx hy).1 ho]
   exact hE.refl x hx
  ·have hP := (setN_bit.1 hb).2
   exact setN_bit.2 ⟨h.dlt ha, fun x hx y hy ho => hE.symm _ hy _ hx (hP y hy x hx (by
    have := (h.oc_t1 (h.dlt ha) hx hy).1 ho
    rwa [h.dd ha] at this))⟩
  ·have hP1 := (setN_bit.1 h1).2
   have hP2 := (setN_bit.1 h2).2
   refine setN_bit.2 ⟨hc, fun x hx y hy ho => ?_⟩
   obtain ⟨q, hq, q1, q2⟩ := (h.oc_assoc ha hb hx hy).1 ⟨c, hc, h3, ho⟩
   exact hE.trans _ hx _ hq _ hy (hP2 x hx q hq q1) (hP1 q hq y hy q2)
 have hs : Sub (adU t) (setN t.length fun a => ∀ x, x < t.length → ∀ y, y < t.length → Oc t a x y → CoR t (adj t) x y) := fun a ha => setN_bit.2 ⟨(adU_bit.1 ha).1, fun x hx y hy ho => by
  obtain ⟨b, hb, hb1, hb2⟩ := adU_turn h ha hx hy ho
  exact ⟨b, hb, clo_sub adU_lt b hb1, hb2⟩⟩
 exact (setN_bit.1 (clo_in hC hs a ha)).2 x hx y hy ho
theorem gr_one (h : RingP t) {i j k m : Nat} (hi : i < t.length) (hj : j < t.length) (hk : k < t.length) (hm : m < t.length) (h1 : Oc t i j k) (h2 : Oc t i j m) : CoR t (adj t) k m := by
 have hdi := h.dlt hi
 obtain ⟨a, ha, a1, a2⟩ := (h.oc_assoc hi hdi hk hm).2 ⟨j, hj, (h.oc_t1 hi hj hk).1 h1, h2⟩
 exact adj_turn h (adj_has h hi ha a1) hk hm a2
theorem gr_well (h : RingP t) {i j k i' j' k' : Nat} (hi : i < t.length) (hj : j < t.length) (hk : k < t.length) (hi' : i' < t.length) (hj' : j' < t.length) (hk' : k' < t.length)
  (e1 : CoR t (adj t) i i') (e2 : CoR t (adj t) j j') (h1 : Oc t i j k) (h2 : Oc t i' j' k') : CoR t (adj t) k k' := by
 have hE := co_eqv h (adj_clos h)
 obtain ⟨a, ha, ab, ao⟩ := e1
 obtain ⟨q, hq, q1, q2⟩ := (h.oc_assoc hi ha hj' hk').1 ⟨i', hi', ao, h2⟩
 obtain ⟨b, hb, bb, bo⟩ := hE.trans _ hj _ hj' _ hq e2 (adj_turn h ab hj' hq q1)
 obtain ⟨m, hm, m1, m2⟩ := (h.oc_assoc hi hj hb hk').2 ⟨q, hq, bo, q2⟩
 exact hE.trans _ hk _ hm _ hk' (gr_one h hi hj hk hm h1 m1) ⟨b, hb, bb, m2⟩
end Go.Pl
namespace Go.Pl
variable {t : Cu}
noncomputable def gk (t : Cu) (i j : Nat) : Nat := ((List.range t.length).find? fun k => bd (Oc t i j k)).getD t.length
theorem gk_ok (h : RingP t) {i j : Nat} (hi : i < t.length) (hj : j < t.length) : gk t i j < t.length ∧ Oc t i j (gk t i j) ∧ ∀ a, a < gk t i j → ¬ Oc t i j a := by
 unfold gk
 rcases find_range (p := fun k => bd (Oc t i j k)) (j := t.length) with ⟨k, h1, h2, h3, h4⟩ | ⟨_, h2⟩
 ·rw [h1]
  exact ⟨h2, bd_iff.1 h3, fun a ha ho => by
   have := h4 a ha
   rw [bd_true ho] at this
   cases this⟩
 ·obtain ⟨k, hk, ho⟩ := h.oc_some hi hj
  have := h2 k hk
  try simp only at this
  rw [bd_true ho] at this
  cases this
noncomputable def gnum (t : Cu) (i j : Nat) : Nat := num (CoR t (adj t)) (gk t i j)
theorem gnum_oc (h : RingP t) {i j k : Nat} (hi : i < t.length) (hj : j < t.length) (hk : k < t.length) (ho : Oc t i j k) : num (CoR t (adj t)) k = gnum t i j := by
 obtain ⟨g1, g2, _⟩ := gk_ok h hi hj
 exact ((co_eqv h (adj_clos h)).num_eq hk g1).2 (gr_one h hi hj hk g1 ho g2)
theorem gnum_congr (h : RingP t) {i j i' j' : Nat} (hi : i < t.length) (hj : j < t.length) (hi' : i' < t.length) (hj' : j' < t.length)
  (e1 : num (CoR t (adj t)) i = num (CoR t (adj t)) i') (e2 : num (CoR t (adj t)) j = num (CoR t (adj t)) j') : gnum t i j = gnum t i' j' := by
 have hE := co_eqv h (adj_clos h)
 obtain ⟨g1, g2, _⟩ := gk_ok h hi hj
 obtain ⟨k1, k2, _⟩ := gk_ok h hi' hj'
 exact (hE.num_eq g1 k1).2 (gr_well h hi hj g1 hi' hj' k1 ((hE.num_eq hi hi').1 e1) ((hE.num_eq hj hj').1 e2) g2 k2)
end Go.Pl
namespace Go.Pl
open Go.Aw
variable {t : Cu} {R : Nat → Nat → Prop} {n : Nat}
theorem EqR.num_new (h : EqR n R) {i : Nat} (hi : i < n) : num R i = cnt R i ↔ Pl.rp R i = i := by
 constructor
 ·intro e
  have hle := rp_le (R := R) i
  refine Nat.le_antisymm hle (Nat.le_of_not_lt fun h1 => ?_)
  have := cnt_lt_rep h1 (h.rp_rp hi)
  unfold num at e
  omega
 ·intro e
  unfold num
  rw [e]
theorem EqR.num_max (h : EqR n R) {j : Nat} (hj : j < n) : max (cnt R j) (num R j + 1) = cnt R (j + 1) := by
 have e : cnt R (j + 1) = cnt R j + if Pl.rp R j = j then 1 else 0 := rfl
 rw [e]
 by_cases h1 : Pl.rp R j = j
 ·rw [if_pos h1, (h.num_new hj).2 h1]
  omega
 ·rw [if_neg h1]
  have hle := rp_le (R := R) j
  have := cnt_lt_rep (show Pl.rp R j < j by omega) (h.rp_rp hj)
  unfold num
  omega
theorem EqR.num_lt (h : EqR n R) {j : Nat} (hj : j < n) : num R j < cnt R n := by
 have h1 := h.num_max hj
 have h2 := cnt_mono (R := R) (m := j + 1) (k := n - (j + 1))
 rw [show j + 1 + (n - (j + 1)) = n by omega] at h2
 omega
theorem cnt_some : ∀ {n a : Nat}, a < cnt R n → ∃ i, i < n ∧ Pl.rp R i = i ∧ cnt R i = a
 | 0, a, h => absurd h (Nat.not_lt_zero a)
 | n + 1, a, h => by
  have e : cnt R (n + 1) = cnt R n + if Pl.rp R n = n then 1 else 0 := rfl
  rw [e] at h
  by_cases h1 : a < cnt R n
  ·obtain ⟨i, h2, h3⟩ := cnt_some h1
   exact ⟨i, by omega, h3⟩
  ·split at h
   ·rename_i h2
    exact ⟨n, Nat.lt_succ_self n, h2, by omega⟩
   ·omega
theorem cnt_num {a : Nat} (h : a < cnt R n) : ∃ i, i < n ∧ num R i = a := by
 obtain ⟨i, h1, h2, h3⟩ := cnt_some h
 exact ⟨i, h1, by unfold num; rw [h2, h3]⟩
noncomputable def rpo (R : Nat → Nat → Prop) (n a : Nat) : Nat := ((List.range n).find? fun i => bd (num R i = a)).getD 0
theorem rpo_ok {i : Nat} (hi : i < n) : rpo R n (num R i) < n ∧ num R (rpo R n (num R i)) = num R i := by
 unfold rpo
 rcases find_range (p := fun k => bd (num R k = num R i)) (j := n) with ⟨k, h1, h2, h3, -⟩ | ⟨_, h2⟩
 ·rw [h1]
  exact ⟨h2, bd_iff.1 h3⟩
 ·have := h2 i hi
  have h3 : bd (num R i = num R i) = false := this
  rw [bd_true rfl] at h3
  cases h3
noncomputable def gg (t : Cu) (a b : Nat) : Int := (gnum t (rpo (CoR t (adj t)) t.length a) (rpo (CoR t (adj t)) t.length b) : Nat)
theorem gg_eq (h : RingP t) {i j : Nat} (hi : i < t.length) (hj : j < t.length) : gg t (num (CoR t (adj t)) i) (num (CoR t (adj t)) j) = (gnum t i j : Nat) := by
 obtain ⟨h1, h2⟩ := rpo_ok (R := CoR t (adj t)) hi
 obtain ⟨h3, h4⟩ := rpo_ok (R := CoR t (adj t)) hj
 unfold gg
 rw [gnum_congr h h1 h3 hi hj h2 h4]
def wrP (t : Cu) (i j a b : Nat) : Prop := ∃ x y, (x < i ∧ y < t.length ∨ x = i ∧ y < j) ∧ num (CoR t (adj t)) x = a ∧ num (CoR t (adj t)) y = b
noncomputable def wrG (t : Cu) (i j a b : Nat) : Int := if bd (wrP t i j a b) = true then gg t a b else 0
theorem wr_zero (a b : Nat) : wrG t 0 0 a b = 0 := by
 unfold wrG
 rw [bd_false]
 ·rfl
 ·rintro ⟨x, y, h, -⟩
  omega
theorem wr_step (h : RingP t) {i j : Nat} (hi : i < t.length) (hj : j < t.length) :
  (fun x y => if x = num (CoR t (adj t)) i ∧ y = num (CoR t (adj t)) j then (gnum t i j : Int) else wrG t i j x y) = wrG t i (j + 1) := by
 funext x y
 by_cases e : x = num (CoR t (adj t)) i ∧ y = num (CoR t (adj t)) j
 ·rw [if_pos e]
  unfold wrG
  rw [bd_true ⟨i, j, .inr ⟨rfl, Nat.lt_succ_self j⟩, e.1.symm, e.2.symm⟩, if_pos rfl, e.1, e.2, gg_eq h hi hj]
 ·rw [if_neg e]
  unfold wrG
  have : wrP t i (j + 1) x y ↔ wrP t i j x y := by
   constructor
   ·rintro ⟨a, b, h1, h2, h3⟩
    refine ⟨a, b, ?_, h2, h3⟩
    rcases h1 with h1 | h1
    ·exact .inl h1
    ·by_cases eb : b = j
     ·subst eb
      exact absurd ⟨by rw [← h2, h1.1], h3.symm⟩ e
     ·exact .inr ⟨h1.1, by omega⟩
   ·rintro ⟨a, b, h1, h2, h3⟩
    exact ⟨a, b, h1.imp id fun h1 => ⟨h1.1, by omega⟩, h2, h3⟩
  by_cases hw : wrP t i j x y
  ·rw [bd_true hw, bd_true (this.2 hw)]
  ·rw [bd_false hw, bd_false fun hq => hw (this.1 hq)]
theorem wr_row {i : Nat} : wrG t i t.length = wrG t (i + 1) 0 := by
 funext x y
 unfold wrG
 have : wrP t i t.length x y ↔ wrP t (i + 1) 0 x y := by
  constructor
  ·rintro ⟨a, b, h1, h2⟩
   refine ⟨a, b, .inl ?_, h2⟩
   rcases h1 with h1 | h1
   ·exact ⟨by omega, h1.2⟩
   ·exact ⟨by omega, h1.2⟩
  ·rintro ⟨a, b, h1, h2⟩
   refine ⟨a, b, ?_, h2⟩
   rcases h1 with h1 | h1
   ·by_cases e : a = i
    ·exact .inr ⟨e, h1.2⟩
    ·exact .inl ⟨by omega, h1.2⟩
   ·omega
 by_cases hw : wrP t i t.length x y
 ·rw [bd_true hw, bd_true (this.1 hw)]
 ·rw [bd_false hw, bd_false fun hq => hw (this.2 hq)]
noncomputable def ncG (t : Cu) : Nat := cnt (CoR t (adj t)) t.length
noncomputable def ggM (t : Cu) : List (List Int) := matF (ncG t) (ncG t) (gg t)
theorem wr_end {m : Nat} (hm : m = ncG t) : matF m m (wrG t t.length 0) = ggM t := by
 subst hm
 refine matF_congr fun a ha b hb => ?_
 obtain ⟨i, hi, e1⟩ := cnt_num ha
 obtain ⟨j, hj, e2⟩ := cnt_num hb
 unfold wrG
 rw [bd_true ⟨i, j, .inl ⟨hi, hj⟩, e1, e2⟩, if_pos rfl]
theorem find_congr {p q : Nat → Bool} : ∀ {l : List Nat}, (∀ x ∈ l, p x = q x) → l.find? p = l.find? q
 | [], _ => rfl
 | a :: l, h => by
  rw [List.find?_cons, List.find?_cons, h a (List.mem_cons_self ..), find_congr fun x hx => h x (List.mem_cons_of_mem _ hx)]
theorem lbI_first (h : RingP t) {i j : Nat} (hi : i < t.length) (hj : j < t.length) : (lbI t.length (suS t i j)).getD 0 0 = (gk t i j : Nat) ∧ 0 < (lbI t.length (suS t i j)).length := by
 obtain ⟨g1, g2, -⟩ := gk_ok h hi hj
 have hf : (List.range t.length).find? (fun k => bd (Oc t i j k)) = some (gk t i j) := by
  unfold gk
  cases e : (List.range t.length).find? (fun k => bd (Oc t i j k)) with
  | none =>
   have := List.find?_eq_none.1 e (gk t i j) (by simpa using g1)
   rw [bd_true g2] at this
   exact absurd rfl this
  | some x => rfl
 have hq : (List.range t.length).find? (fun k => (suS t i j).testBit k) = some (gk t i j) := by
  rw [← hf]
  refine find_congr fun x hx => ?_
  have hx' : x < t.length := by simpa using hx
  by_cases ho : Oc t i j x
  ·rw [bd_true ho, suS_bit.2 ⟨hx', ho⟩]
  ·rw [bd_false ho]
   cases e : (suS t i j).testBit x with
   | false => rfl
   | true => exact absurd (suS_bit.1 e).2 ho
 have hh : (lbl t.length (suS t i j)).head? = some (gk t i j) := by
  unfold lbl
  rw [List.head?_filter]
  exact hq
 unfold lbI
 cases e : lbl t.length (suS t i j) with
 | nil => rw [e] at hh; cases hh
 | cons a l =>
  rw [e] at hh
  simp only [List.head?_cons, Option.some.injEq] at hh
  subst hh
  exact ⟨rfl, by simp⟩
noncomputable def grR (t : Cu) : Option (List (List Int)) × Int := if isRing t = true then (some (ggM t), 0) else (none, 1)
end Go.Pl
namespace Go.Pl
open Go.Aw
variable {t : Cu}
theorem gg_oc (h : RingP t) {i j k : Nat} (hi : i < t.length) (hj : j < t.length) (hk : k < t.length) (ho : Oc t i j k) :
  gg t (num (CoR t (adj t)) i) (num (CoR t (adj t)) j) = (num (CoR t (adj t)) k : Nat) := by
 rw [gg_eq h hi hj, gnum_oc h hi hj hk ho]
theorem num0 {R : Nat → Nat → Prop} : num R 0 = 0 := by unfold num; rw [rp_zero]; rfl
theorem gg_unit (h : RingP t) {a : Nat} (ha : a < ncG t) : gg t 0 a = a ∧ gg t a 0 = a := by
 obtain ⟨i, hi, e⟩ := cnt_num ha
 have h1 := gg_oc h h.pos hi hi ((h.oc_left hi hi).2 rfl)
 have h2 := gg_oc h hi h.pos hi ((h.oc_right hi hi).2 rfl)
 rw [num0, e] at h1 h2
 exact ⟨h1, h2⟩
theorem gg_inv (h : RingP t) {a : Nat} (ha : a < ncG t) : ∃ b, b < ncG t ∧ gg t a b = 0 := by
 obtain ⟨i, hi, e⟩ := cnt_num ha
 have hd := h.dlt hi
 have ho : Oc t i (dN t i) 0 := (h.oc_t1 hi hd h.pos).2 ((h.oc_right hd hd).2 rfl)
 have h1 := gg_oc h hi hd h.pos ho
 rw [num0, e] at h1
 exact ⟨_, (co_eqv h (adj_clos h)).num_lt hd, h1⟩
theorem gg_lt (h : RingP t) {a b : Nat} (ha : a < ncG t) (hb : b < ncG t) : ∃ c, c < ncG t ∧ gg t a b = (c : Nat) := by
 obtain ⟨i, hi, e1⟩ := cnt_num ha
 obtain ⟨j, hj, e2⟩ := cnt_num hb
 obtain ⟨g1, g2, -⟩ := gk_ok h hi hj
 have h1 := gg_oc h hi hj g1 g2
 rw [e1, e2] at h1
 exact ⟨_, (co_eqv h (adj_clos h)).num_lt g1, h1⟩
theorem gg_assoc (h : RingP t) {a b e : Nat} (ha : a < ncG t) (hb : b < ncG t) (he : e < ncG t) : gg t (gg t a b).toNat e = gg t a (gg t b e).toNat := by
 obtain ⟨i, hi, e1⟩ := cnt_num ha
 obtain ⟨j, hj, e2⟩ := cnt_num hb
 obtain ⟨k, hk, e3⟩ := cnt_num he
 obtain ⟨p1, p2, -⟩ := gk_ok h hi hj
 obtain ⟨x1, x2, -⟩ := gk_ok h p1 hk
 obtain ⟨q, q1, q2, q3⟩ := (h.oc_assoc hi hj hk x1).1 ⟨_, p1, p2, x2⟩
 have h1 := gg_oc h hi hj p1 p2
 have h2 := gg_oc h p1 hk x1 x2
 have h3 := gg_oc h hj hk q1 q2
 have h4 := gg_oc h hi q1 x1 q3
 rw [← e1, ← e2, ← e3, h1, h3, Int.toNat_natCast, Int.toNat_natCast, h2, h4]
theorem num_zero_iff (h : RingP t) {i : Nat} (hi : i < t.length) : num (CoR t (adj t)) i = 0 ↔ (adj t).testBit i = true := by
 rw [(co_eqv h (adj_clos h)).num_zero hi]
 constructor
 ·rintro ⟨k, hk, hb, ho⟩
  rw [(h.oc_left hk hi).1 ho]
  exact hb
 ·intro hb
  exact ⟨i, hi, hb, (h.oc_left hi hi).2 rfl⟩
structure DimF (t : Cu) (d : Nat → Int) : Prop where
 mul : ∀ i, i < t.length → ∀ j, j < t.length → sumTo (fun k => e3 t i j k * d k) t.length = d i * d j
 pos : ∀ j, j < t.length → 0 < d j
theorem sum_pos {f : Nat → Int} {n : Nat} (hn : 0 < n) (h : ∀ i, i < n → 0 < f i) : 0 < sumTo f n := by
 have h1 := term_le (f := f) (n := n) (i := 0) (fun i hi => Int.le_of_lt (h i hi)) hn
 have := h 0 hn
 omega
theorem cmul {f : Nat → Int} {c : Int} {n : Nat} : sumTo (fun i => c * f i) n = c * sumTo f n := by
 have : sumTo (fun i => c * f i) n = sumTo (fun i => f i * c) n := sum_congr fun i _ => Int.mul_comm _ _
 rw [this, sum_mul, Int.mul_comm]
theorem DimF.dual (h : RingP t) {d : Nat → Int} (hd : DimF t d) {j : Nat} (hj : j < t.length) : d (dN t j) = d j := by
 have hdj := h.dlt hj
 have s1 : sumTo (fun i => sumTo (fun k => d i * (e3 t i j k * d k)) t.length) t.length = d j * sumTo (fun i => d i * d i) t.length := by
  rw [← cmul]
  refine sum_congr fun i hi => ?_
  rw [cmul, hd.mul i hi j hj]
  simp only [Int.mul_comm, Int.mul_left_comm]
 have s2 : sumTo (fun i => sumTo (fun k => d i * (e3 t i j k * d k)) t.length) t.length = d (dN t j) * sumTo (fun i => d i * d i) t.length := by
  rw [sum_comm, ← cmul]
  refine sum_congr fun k hk => ?_
  have e : sumTo (fun i => d i * (e3 t i j k * d k)) t.length = d k * sumTo (fun i => e3 t k (dN t j) i * d i) t.length := by
   rw [← cmul]
   refine sum_congr fun i hi => ?_
   have := h.turn2 i hi j hj k hk
   rw [this]
   show d i * (e3 t k (dN t j) i * d k) = d k * (e3 t k (dN t j) i * d i)
   simp only [Int.mul_comm, Int.mul_left_comm]
  rw [e, hd.mul k hk _ hdj, ← Int.mul_assoc, Int.mul_comm]
 rw [s1] at s2
 have hp : 0 < sumTo (fun i => d i * d i) t.length := sum_pos h.pos fun i hi => Int.mul_pos (hd.pos i hi) (hd.pos i hi)
 exact (Int.eq_of_mul_eq_mul_right (by omega) s2).symm
theorem DimF.col (h : RingP t) {d : Nat → Int} (hd : DimF t d) {j k : Nat} (hj : j < t.length) (hk : k < t.length) : sumTo (fun i => d i * e3 t i j k) t.length = d j * d k := by
 have e : sumTo (fun i => d i * e3 t i j k) t.length = sumTo (fun i => e3 t k (dN t j) i * d i) t.length := sum_congr fun i hi => by
  have := h.turn2 i hi j hj k hk
  rw [this, Int.mul_comm]
  rfl
 rw [e, hd.mul k hk _ (h.dlt hj), hd.dual h hj, Int.mul_comm]
noncomputable def sqC (t : Cu) (d : Nat → Int) (a : Nat) (m : Nat) : Int := sumTo (fun i => if num (CoR t (adj t)) i = a then d i * d i else 0) m
theorem sqC_eq (h : RingP t) {d : Nat → Int} (hd : DimF t d) {a : Nat} (ha : a < ncG t) : sqC t d a t.length = sqC t d 0 t.length := by
 obtain ⟨j, hj, ej⟩ := cnt_num ha
 have hE := co_eqv h (adj_clos h)
 obtain ⟨C, hC⟩ : ∃ C : Nat → Nat, num (CoR t (adj t)) = C := ⟨_, rfl⟩
 -- i is in the component 0 exactly if j's and k's components are one, for k in i j
 have key : ∀ i, i < t.length → ∀ k, k < t.length → e3 t i j k ≠ 0 → (C i = 0 ↔ C k = a) := fun i hi k hk hne => by
  have ho : Oc t i j k := by
   have := h.nn hi hj hk
   unfold Oc
   omega
  have h1 := gg_oc h hi hj hk ho
  rw [hC] at h1 ej
  have h2 := (gg_unit h ha).1
  constructor
  ·intro e
   rw [e, ej, h2] at h1
   omega
  ·intro e
   -- C i * a = a: then C i = 0
   rw [ej, e] at h1
   obtain ⟨b, hb, e2⟩ := gg_inv h ha
   have hi' : C i < ncG t := by rw [← hC]; exact hE.num_lt hi
   have h3 := gg_assoc h hi' ha hb
   rw [h1, e2, Int.toNat_natCast, Int.toNat_zero, e2, (gg_unit h hi').2] at h3
   omega
 have t1 : sumTo (fun i => if C i = 0 then sumTo (fun k => d i * (e3 t i j k * d k)) t.length else 0) t.length = d j * sqC t d 0 t.length := by
  unfold sqC
  rw [hC, ← cmul]
  refine sum_congr fun i hi => ?_
  by_cases e : C i = 0
  ·rw [if_pos e, if_pos e, cmul, hd.mul i hi j hj]
   simp only [Int.mul_comm, Int.mul_left_comm]
  ·rw [if_neg e, if_neg e, Int.mul_zero]
 have t2 : sumTo (fun i => if C i = 0 then sumTo (fun k => d i * (e3 t i j k * d k)) t.length else 0) t.length = sumTo (fun i => sumTo (fun k => if C k = a then d i * (e3 t i j k * d k) else 0) t.length) t.length := by
  refine sum_congr fun i hi => ?_
  by_cases e : C i = 0
  ·rw [if_pos e]
   refine sum_congr fun k hk => ?_
   by_cases hz : e3 t i j k = 0
   ·rw [hz]; simp
   ·rw [if_pos ((key i hi k hk hz).1 e)]
  ·rw [if_neg e]
   have : sumTo (fun k => if C k = a then d i * (e3 t i j k * d k) else 0) t.length = sumTo (fun _ => 0) t.length := sum_congr fun k hk => by
    by_cases hz : e3 t i j k = 0
    ·rw [hz]; simp
    ·rw [if_neg fun hk' => e ((key i hi k hk hz).2 hk')]
   rw [this, sum_const, Int.mul_zero]
 have t3 : sumTo (fun i => sumTo (fun k => if C k = a then d i * (e3 t i j k * d k) else 0) t.length) t.length = d j * sqC t d a t.length := by
  unfold sqC
  rw [sum_comm, hC, ← cmul]
  refine sum_congr fun k hk => ?_
  by_cases e : C k = a
  ·have e1 : sumTo (fun i => if C k = a then d i * (e3 t i j k * d k) else 0) t.length = sumTo (fun i => d k * (d i * e3 t i j k)) t.length := sum_congr fun i _ => by
    rw [if_pos e]
    simp only [Int.mul_comm, Int.mul_left_comm]
   rw [e1, if_pos e, cmul, hd.col h hj hk]
   simp only [Int.mul_comm, Int.mul_left_comm]
  ·have e1 : sumTo (fun i => if C k = a then d i * (e3 t i j k * d k) else 0) t.length = sumTo (fun _ => 0) t.length := sum_congr fun i _ => by rw [if_neg e]
   rw [e1, if_neg e, sum_const, Int.mul_zero, Int.mul_zero]
 rw [t2, t3] at t1
 have hp := hd.pos j hj
 exact Int.eq_of_mul_eq_mul_left (by omega) t1
end Go.Pl
