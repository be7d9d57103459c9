import Derived.Test.YtlngnhbochmcoaaQd2
set_option linter.unusedSimpArgs false
set_option linter.unusedVariables false
namespace Go.Pl
variable {t : Cu}
end Go.Pl
namespace Go.Pl
variable {t : Cu}
noncomputable def gk (t : Cu) (i j : Nat) : Nat := ((List.range t.length).find? fun k => bd (Oc t i j k)).getD t.length
noncomputable def cg5 (t : Cu) (i j : Nat) : Nat := num (CoR t (adj t)) (gk t i j)
end Go.Pl
namespace Go.Pl
open Go.Aw
variable {t : Cu} {R : Nat → Nat → Prop} {n : Nat}
noncomputable def rpo (R : Nat → Nat → Prop) (n a : Nat) : Nat := ((List.range n).find? fun i => bd (num R i = a)).getD 0
noncomputable def gg (t : Cu) (a b : Nat) : Int := (cg5 t (rpo (CoR t (adj t)) t.length a) (rpo (CoR t (adj t)) t.length b) : Nat)
end Go.Pl
namespace Go.Pl
open Go.Aw
variable {t : Cu}
structure DimF (t : Cu) (d : Nat → Int) : Prop where
 mul : ∀ i, i < t.length → ∀ j, j < t.length → sumTo (fun k => e3 t i j k * d k) t.length = d i * d j
 pos : ∀ j, j < t.length → 0 < d j
theorem aH6 {f : Nat → Int} {n : Nat} (hn : 0 < n) (h : ∀ i, i < n → 0 < f i) : 0 < sumTo f n := by
 have h1 := JN_ (f := f) (n := n) (i := 0) (fun i hi => Int.le_of_lt (h i hi)) hn
 have := h 0 hn
 omega
theorem ba0 {f : Nat → Int} {c : Int} {n : Nat} : sumTo (fun i => c * f i) n = c * sumTo f n := by
 have : sumTo (fun i => c * f i) n = sumTo (fun i => f i * c) n := xs_ fun i _ => Int.mul_comm _ _
 rw [this, sum_mul, Int.mul_comm]
theorem DimF.dual (h : RingP t) {d : Nat → Int} (hd : DimF t d) {j : Nat} (hj : j < t.length) : d (dN t j) = d j := by
 have hdj := h.dlt hj
 have s1 : sumTo (fun i => sumTo (fun k => d i * (e3 t i j k * d k)) t.length) t.length = d j * sumTo (fun i => d i * d i) t.length := by
  rw [← ba0]
  refine xs_ fun i hi => ?_
  rw [ba0, hd.mul i hi j hj]
  simp only [Int.mul_comm, Int.mul_left_comm]
 have s2 : sumTo (fun i => sumTo (fun k => d i * (e3 t i j k * d k)) t.length) t.length = d (dN t j) * sumTo (fun i => d i * d i) t.length := by
  rw [z0_, ← ba0]
  refine xs_ fun k hk => ?_
  have e : sumTo (fun i => d i * (e3 t i j k * d k)) t.length = d k * sumTo (fun i => e3 t k (dN t j) i * d i) t.length := by
   rw [← ba0]
   refine xs_ fun i hi => ?_
   have := h.turn2 i hi j hj k hk
   rw [this]
   show d i * (e3 t k (dN t j) i * d k) = d k * (e3 t k (dN t j) i * d i)
   simp only [Int.mul_comm, Int.mul_left_comm]
  rw [e, hd.mul k hk _ hdj, ← Int.mul_assoc, Int.mul_comm]
 rw [s1] at s2
 have hp : 0 < sumTo (fun i => d i * d i) t.length := aH6 h.pos fun i hi => Int.mul_pos (hd.pos i hi) (hd.pos i hi)
 exact (Int.eq_of_mul_eq_mul_right (by omega) s2).symm
theorem DimF.col (h : RingP t) {d : Nat → Int} (hd : DimF t d) {j k : Nat} (hj : j < t.length) (hk : k < t.length) : sumTo (fun i => d i * e3 t i j k) t.length = d j * d k := by
 have e : sumTo (fun i => d i * e3 t i j k) t.length = sumTo (fun i => e3 t k (dN t j) i * d i) t.length := xs_ fun i hi => by
  have := h.turn2 i hi j hj k hk
  rw [this, Int.mul_comm]
  rfl
 rw [e, hd.mul k hk _ (h.dlt hj), hd.dual h hj, Int.mul_comm]
end Go.Pl
