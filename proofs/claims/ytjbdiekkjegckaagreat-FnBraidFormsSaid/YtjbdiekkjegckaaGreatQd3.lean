import Derived.Test.YtjbdiekkjegckaaGreatQd2
set_option linter.unusedSimpArgs false
set_option linter.unusedVariables false
namespace Go.Pl
variable {t : Cu}
theorem af5 (h : RingP t) {a x y : Nat} (ha : (adU t).testBit a = true) (hx : x < t.length) (hy : y < t.length) (ho : Oc t a x y) : ∃ b, b < t.length ∧ (adU t).testBit b = true ∧ Oc t x b y := by
 obtain ⟨hal, i, hi, hia⟩ := adU_bit.1 ha
 have hdi := h.dlt hi
 -- y in (i i*) x = i (i* x): q in i* x, y in i q
 obtain ⟨q, hq, hq1, hq2⟩ := (h.oc_assoc hi hdi hx hy).1 ⟨a, hal, hia, ho⟩
 have hdq := h.dlt hq
 -- q in i* x: i in x q*
 have h1 : Oc t x (dN t q) i := by
  have h2 := (h.oc_t1 hdi hx hq).1 hq1
  rw [h.dd hi] at h2
  exact (h.oc_t2 hi hq hx).1 h2
 -- y in i q, i in x q*: y in x (q* q)
 obtain ⟨b, hb, hb1, hb2⟩ := (h.oc_assoc hx hdq hq hy).1 ⟨i, hi, h1, hq2⟩
 refine ⟨b, hb, adU_bit.2 ⟨hb, dN t q, hdq, ?_⟩, hb2⟩
 rw [h.dd hq]
 exact hb1
theorem af6 (h : RingP t) {a x y : Nat} (ha : (adj t).testBit a = true) (hx : x < t.length) (hy : y < t.length) (ho : Oc t a x y) : CoR t (adj t) x y := by
 have hE := Sb_ h (af8 h)
 have hC : ClosP t (RK_ t.length fun a => ∀ x, x < t.length → ∀ y, y < t.length → Oc t a x y → CoR t (adj t) x y) := by
  refine ⟨VG_, setN_bit.2 ⟨h.pos, fun x hx y hy ho => ?_⟩, fun a ha hb => ?_, fun a ha b hb c hc h1 h2 h3 => ?_⟩
  ·rw [(h.oc_left hx hy).1 ho]
   exact hE.refl x hx
  ·have hP := (setN_bit.1 hb).2
   exact setN_bit.2 ⟨h.dlt ha, fun x hx y hy ho => hE.symm _ hy _ hx (hP y hy x hx (by
    have := (h.oc_t1 (h.dlt ha) hx hy).1 ho
    rwa [h.dd ha] at this))⟩
  ·have hP1 := (setN_bit.1 h1).2
   have hP2 := (setN_bit.1 h2).2
   refine setN_bit.2 ⟨hc, fun x hx y hy ho => ?_⟩
   obtain ⟨q, hq, q1, q2⟩ := (h.oc_assoc ha hb hx hy).1 ⟨c, hc, h3, ho⟩
   exact hE.trans _ hx _ hq _ hy (hP2 x hx q hq q1) (hP1 q hq y hy q2)
 have hs : Sub (adU t) (RK_ t.length fun a => ∀ x, x < t.length → ∀ y, y < t.length → Oc t a x y → CoR t (adj t) x y) := fun a ha => setN_bit.2 ⟨(adU_bit.1 ha).1, fun x hx y hy ho => by
  obtain ⟨b, hb, hb1, hb2⟩ := af5 h ha hx hy ho
  exact ⟨b, hb, KG_ ai9 b hb1, hb2⟩⟩
 exact (setN_bit.1 (aG0 hC hs a ha)).2 x hx y hy ho
theorem gr_one (h : RingP t) {i j k m : Nat} (hi : i < t.length) (hj : j < t.length) (hk : k < t.length) (hm : m < t.length) (h1 : Oc t i j k) (h2 : Oc t i j m) : CoR t (adj t) k m := by
 have hdi := h.dlt hi
 obtain ⟨a, ha, a1, a2⟩ := (h.oc_assoc hi hdi hk hm).2 ⟨j, hj, (h.oc_t1 hi hj hk).1 h1, h2⟩
 exact af6 h (au4 h hi ha a1) hk hm a2
end Go.Pl
namespace Go.Pl
variable {t : Cu}
noncomputable def gk (t : Cu) (i j : Nat) : Nat := ((List.range t.length).find? fun k => bd (Oc t i j k)).getD t.length
noncomputable def cd1 (t : Cu) (i j : Nat) : Nat := num (CoR t (adj t)) (gk t i j)
end Go.Pl
namespace Go.Pl
open Go.Aw
variable {t : Cu} {R : Nat → Nat → Prop} {n : Nat}
noncomputable def rpo (R : Nat → Nat → Prop) (n a : Nat) : Nat := ((List.range n).find? fun i => bd (num R i = a)).getD 0
noncomputable def gg (t : Cu) (a b : Nat) : Int := (cd1 t (rpo (CoR t (adj t)) t.length a) (rpo (CoR t (adj t)) t.length b) : Nat)
end Go.Pl
namespace Go.Pl
open Go.Aw
variable {t : Cu}
structure DimF (t : Cu) (d : Nat → Int) : Prop where
 mul : ∀ i, i < t.length → ∀ j, j < t.length → sumTo (fun k => e3 t i j k * d k) t.length = d i * d j
 pos : ∀ j, j < t.length → 0 < d j
theorem au3 {f : Nat → Int} {n : Nat} (hn : 0 < n) (h : ∀ i, i < n → 0 < f i) : 0 < sumTo f n := by
 have h1 := KC_ (f := f) (n := n) (i := 0) (fun i hi => Int.le_of_lt (h i hi)) hn
 have := h 0 hn
 omega
theorem aH6 {f : Nat → Int} {c : Int} {n : Nat} : sumTo (fun i => c * f i) n = c * sumTo f n := by
 have : sumTo (fun i => c * f i) n = sumTo (fun i => f i * c) n := yb_ fun i _ => Int.mul_comm _ _
 rw [this, Zo_, Int.mul_comm]
theorem DimF.dual (h : RingP t) {d : Nat → Int} (hd : DimF t d) {j : Nat} (hj : j < t.length) : d (dN t j) = d j := by
 have hdj := h.dlt hj
 have s1 : sumTo (fun i => sumTo (fun k => d i * (e3 t i j k * d k)) t.length) t.length = d j * sumTo (fun i => d i * d i) t.length := by
  rw [← aH6]
  refine yb_ fun i hi => ?_
  rw [aH6, hd.mul i hi j hj]
  simp only [Int.mul_comm, Int.mul_left_comm]
 have s2 : sumTo (fun i => sumTo (fun k => d i * (e3 t i j k * d k)) t.length) t.length = d (dN t j) * sumTo (fun i => d i * d i) t.length := by
  rw [Za_, ← aH6]
  refine yb_ fun k hk => ?_
  have e : sumTo (fun i => d i * (e3 t i j k * d k)) t.length = d k * sumTo (fun i => e3 t k (dN t j) i * d i) t.length := by
   rw [← aH6]
   refine yb_ fun i hi => ?_
   have := h.turn2 i hi j hj k hk
   rw [this]
   show d i * (e3 t k (dN t j) i * d k) = d k * (e3 t k (dN t j) i * d i)
   simp only [Int.mul_comm, Int.mul_left_comm]
  rw [e, hd.mul k hk _ hdj, ← Int.mul_assoc, Int.mul_comm]
 rw [s1] at s2
 have hp : 0 < sumTo (fun i => d i * d i) t.length := au3 h.pos fun i hi => Int.mul_pos (hd.pos i hi) (hd.pos i hi)
 exact (Int.eq_of_mul_eq_mul_right (by omega) s2).symm
end Go.Pl
