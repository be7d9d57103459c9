import Derived.Test.YtmjcbgpbhlheoaaDoorOz1
import Derived.Test.YtmjcbgpbhlheoaaDoorQd5
import Derived.Test.YtmjcbgpbhlheoaaDoorQd6
set_option linter.unusedSimpArgs false
set_option linter.unusedVariables false
namespace Go.Pl
open Go.Aw Go.Fl Go.Cv Go.Proofs.YtmjcbgpbhlheoaaDoor
variable {t : Cu}
theorem sN_cast {f : Nat → Nat} : ∀ {n : Nat}, sumTo (fun k => ((f k : Nat) : Int)) n = ((sN f n : Nat) : Int)
 | 0 => rfl
 | n + 1 => by
  have ih := sN_cast (f := f) (n := n)
  show sumTo _ n + _ = ((sN f n + f n : Nat) : Int)
  rw [ih, Int.natCast_add]
theorem sN_of {f : Nat → Int} {g : Nat → Nat} {n : Nat} (h : ∀ k, k < n → f k = ((g k : Nat) : Int)) : sumTo f n = ((sN g n : Nat) : Int) := by rw [sum_congr h, sN_cast]
theorem ring_UOk (h : RingP t) : UOk (gT t) t.length := by
 have hG := gT_ok h
 refine ⟨h.pos, h.cube.2.1, hG.le, fun j hj k hk => ?_, fun k hk => ?_⟩
 ·obtain ⟨i, hi, h1⟩ := hG.some j hj k hk
  exact Nat.le_trans h1 (sN_term (f := fun i => gT t i j k) hi)
 ·have e : sumTo (fun i => e3 t i 0 k) t.length = ((mS (gT t) t.length 0 k : Nat) : Int) := sN_of fun i hi => gT_eq h hi h.pos hk
  have e2 : sumTo (fun i => e3 t i 0 k) t.length = sumTo (fun i => if i = k then 1 else 0) t.length := sum_congr fun i hi => by
   rw [h.right i hi k hk]
   unfold dl
   by_cases c : i = k
   ·rw [if_pos c, if_pos (by omega)]
   ·rw [if_neg c, if_neg (by omega)]
  rw [e2, sum_one (f := fun _ => 1) hk] at e
  omega
theorem DimF.unit (h : RingP t) {d : Nat → Int} (hd : DimF t d) : d 0 = 1 := by
 have h1 := hd.mul 0 h.pos 0 h.pos
 have e : sumTo (fun k => e3 t 0 0 k * d k) t.length = sumTo (fun k => if k = 0 then d k else 0) t.length := sum_congr fun k hk => by
  rw [h.right 0 h.pos k hk]
  unfold dl
  by_cases c : k = 0
  ·subst c; rw [if_pos rfl, if_pos rfl, Int.one_mul]
  ·rw [if_neg c, if_neg (by omega), Int.zero_mul]
 rw [e, sum_one h.pos] at h1
 have := hd.pos 0 h.pos
 have h2 : 1 * d 0 = d 0 * d 0 := by rw [Int.one_mul]; exact h1
 exact (Int.eq_of_mul_eq_mul_right (by omega) h2).symm
theorem DimF.nat (h : RingP t) {d : Nat → Int} (hd : DimF t d) : ∃ (D : Nat → Nat) (m : Nat), (∀ k, k < t.length → d k = ((D k : Nat) : Int)) ∧ DOk (gT t) t.length m D ∧ m ≤ 16000 ∧ D 0 = 1 := by
 have hD : ∀ k, k < t.length → d k = (((d k).toNat : Nat) : Int) := fun k hk => by have := hd.pos k hk; omega
 obtain ⟨j, hj, hm⟩ := max_some (fun k => (d k).toNat) h.pos
 have ok : DOk (gT t) t.length (d j).toNat fun k => (d k).toNat := by
  refine ⟨fun i hi j hj => ?_, fun j hj k hk => ?_, fun k hk => ?_, hm, j, hj, rfl⟩
  ·have h1 := hd.mul i hi j hj
   have e : sumTo (fun k => e3 t i j k * d k) t.length = ((sN (fun k => gT t i j k * (d k).toNat) t.length : Nat) : Int) := sN_of fun k hk => by
    rw [Int.natCast_mul, ← gT_eq h hi hj hk, ← hD k hk]
   rw [e, hD i hi, hD j hj, ← Int.natCast_mul] at h1
   exact Int.ofNat.inj h1
  ·have h1 := hd.col h hj hk
   have e : sumTo (fun i => d i * e3 t i j k) t.length = ((sN (fun i => (d i).toNat * gT t i j k) t.length : Nat) : Int) := sN_of fun i hi => by
    rw [Int.natCast_mul, ← gT_eq h hi hj hk, ← hD i hi]
   rw [e, hD j hj, hD k hk, ← Int.natCast_mul] at h1
   exact Int.ofNat.inj h1
  ·have := hd.pos k hk
   show 1 ≤ (d k).toNat
   omega
 have hml := m_le ok (gT_ok h).le
 have h16 := h.cube.2.1
 refine ⟨_, _, hD, ok, by omega, ?_⟩
 have := hd.unit h
 show (d 0).toNat = 1
 omega
def clW (x y : Int) : Int := max 1 (min (x / y * 1000000 + x % y * 1000000 / y) 100000000000)
def iW (t : Cu) : Nat → Nat → Int
 | 0 => fun _ => 1000000
 | s + 1 => fun j => clW (nxW t (iW t s) j) (nxW t (iW t s) 0)
theorem cl_nat {x y : Nat} (hy : 0 < y) : (x / y * 1000000 + x % y * 1000000 / y) = x * 1000000 / y := by
 have h := Nat.div_add_mod x y
 have e : x * 1000000 = y * (x / y * 1000000) + x % y * 1000000 := by
  have : (y * (x / y) + x % y) * 1000000 = x * 1000000 := by rw [h]
  rw [← this, Nat.add_mul, Nat.mul_assoc]
 rw [e, Nat.mul_add_div hy]
theorem nx_cast (h : RingP t) {W : Nat → Int} {V : Nat → Nat} (hW : ∀ k, k < t.length → W k = ((V k : Nat) : Int)) {j : Nat} (hj : j < t.length) : nxW t W j = ((eS (gT t) t.length V j : Nat) : Int) := by
 unfold nxW eS
 refine sN_of fun i hi => sN_of fun k hk => ?_
 rw [Int.natCast_mul, ← gT_eq h hi hj hk, hW k hk]
theorem iW_eq (h : RingP t) : ∀ s j, j < t.length → iW t s j = ((rW (gT t) t.length s j : Nat) : Int)
 | 0, _, _ => rfl
 | s + 1, j, hj => by
  have hU := ring_UOk h
  have e1 := nx_cast h (iW_eq h s) hj
  have e0 := nx_cast h (iW_eq h s) h.pos
  have hp := e0_pos hU fun k hk => Nat.le_trans (by decide) (rW_bd hU s k hk).1
  have hb := rW_bd hU (s + 1) j hj
  have er : rW (gT t) t.length (s + 1) j = eS (gT t) t.length (rW (gT t) t.length s) j * 1000000 / eS (gT t) t.length (rW (gT t) t.length s) 0 := rfl
  show clW (nxW t (iW t s) j) (nxW t (iW t s) 0) = _
  rw [e1, e0]
  rw [er] at hb ⊢
  generalize eS (gT t) t.length (rW (gT t) t.length s) j = x at *
  generalize eS (gT t) t.length (rW (gT t) t.length s) 0 = y at *
  have e := cl_nat (x := x) hp
  rw [← e] at hb ⊢
  unfold clW
  have e2 : ((x : Int) / y * 1000000 + x % y * 1000000 / y) = ((x / y * 1000000 + x % y * 1000000 / y : Nat) : Int) := by
   simp only [Int.natCast_add, Int.natCast_mul, Int.natCast_ediv, Int.natCast_emod]; rfl
  rw [e2]
  generalize x / y * 1000000 + x % y * 1000000 / y = z at *
  omega
def outL (t : Cu) : List Int := rowF t.length fun j => (iW t 400 j + 500000) / 1000000
theorem out_get {j : Nat} (h : j < t.length) : (outL t).getD j 0 = (iW t 400 j + 500000) / 1000000 := rowF_get h
theorem dimP_of {d : Nat → Int} (hd : DimF t d) {L : List Int} (he : ∀ k, k < t.length → L.getD k 0 = d k) : DimP t L := by
 refine ⟨fun i hi j hj => ?_, fun j hj => by rw [he j hj]; exact hd.pos j hj⟩
 rw [he i hi, he j hj, ← hd.mul i hi j hj]
 unfold dsum
 exact sum_congr fun k hk => by rw [he k hk]
theorem DimP.toF {L : List Int} (h : DimP t L) : DimF t fun k => L.getD k 0 := ⟨h.1, h.2⟩
theorem both_find (h : RingP t) {d : Nat → Int} (hd : DimF t d) : (∀ k, k < t.length → (dnL t).getD k 0 = d k) ∧ ∀ k, k < t.length → (outL t).getD k 0 = d k := by
 obtain ⟨D, m, e, ok, hm, h0⟩ := hd.nat h
 have h16 := h.cube.2.1
 constructor
 ·intro k hk
  rw [dnL_get hk, dn_eq ok (gT_ok h) h16 hm h0 hk, e k hk]
 ·intro k hk
  have := rn_eq ok (ring_UOk h) hm h0 hk
  rw [out_get hk, iW_eq h 400 k hk, e k hk, ← this]
  omega
end Go.Pl
