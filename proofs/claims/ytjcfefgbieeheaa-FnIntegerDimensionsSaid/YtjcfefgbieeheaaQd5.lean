import Derived.Test.YtjcfefgbieeheaaQd3
import Derived.Test.YtjcfefgbieeheaaQd1
import Derived.Test.YtjcfefgbieeheaaPl5
set_option linter.unusedSimpArgs false
set_option linter.unusedVariables false
namespace Go.Pl
open Go.Aw
variable {t : Cu}
def nxW (t : Cu) (W : Nat → Int) (j : Nat) : Int := sumTo (fun i => sumTo (fun k => e3 t i j k * W k) t.length) t.length
def rsW (t : Cu) (i : Nat) (W : Nat → Int) (j : Nat) : Int := sumTo (fun k => e3 t i j k * W k) t.length
theorem rs_ge (h : RingP t) {W : Nat → Int} (hW : ∀ k, k < t.length → 1 ≤ W k) {i j : Nat} (hi : i < t.length) (hj : j < t.length) : 1 ≤ rsW t i W j := by
 obtain ⟨k, hk, ho⟩ := h.oc_some hi hj
 have h1 : e3 t i j k * W k ≤ rsW t i W j := term_le (f := fun k => e3 t i j k * W k) (fun a ha => Int.mul_nonneg (h.nn hi hj ha) (by have := hW a ha; omega)) hk
 have h2 : 1 * 1 ≤ e3 t i j k * W k := Int.mul_le_mul (by unfold Oc at ho; omega) (hW k hk) (by decide) (by unfold Oc at ho; omega)
 omega
theorem nx_ge (h : RingP t) {W : Nat → Int} (hW : ∀ k, k < t.length → 1 ≤ W k) {j : Nat} (hj : j < t.length) : 1 ≤ nxW t W j := by
 have h1 : rsW t 0 W j ≤ nxW t W j := term_le (f := fun i => rsW t i W j) (fun a ha => by have := rs_ge h hW ha hj; omega) h.pos
 have := rs_ge h hW h.pos hj
 omega
theorem DimF.row (h : RingP t) {d : Nat → Int} (hd : DimF t d) {i : Nat} (hi : i < t.length) (W : Nat → Int) :
  sumTo (fun j => d j * rsW t i W j) t.length = d i * sumTo (fun k => d k * W k) t.length := by
 have e1 : sumTo (fun j => d j * rsW t i W j) t.length = sumTo (fun j => sumTo (fun k => d j * (e3 t i j k * W k)) t.length) t.length := sum_congr fun j _ => cmul.symm
 rw [e1, sum_comm, ← cmul]
 refine sum_congr fun k hk => ?_
 have e2 : sumTo (fun j => d j * (e3 t i j k * W k)) t.length = sumTo (fun j => e3 t (dN t i) k j * d j) t.length * W k := by
  rw [← sum_mul]
  refine sum_congr fun j hj => ?_
  have := h.turn i hi j hj k hk
  rw [this, ← Int.mul_assoc, Int.mul_comm (d j)]
  rfl
 rw [e2, hd.mul _ (h.dlt hi) k hk, hd.dual h hi, Int.mul_assoc]
end Go.Pl
namespace Go.Pl
open Go.Aw
variable {t : Cu}
def nS (t : Cu) (W : Nat → Int) (a : Nat) : Nat → Int := sumTo fun x => rsW t x W a
def nq (t : Cu) (W : Nat → Int) (i j : Nat) : Nat → Int := fun a => if a < j then nS t W a (i + 1) else nS t W a i
def rsP (t : Cu) (i : Nat) (W : Nat → Int) (j : Nat) : Nat → Int := sumTo fun k => e3 t i j k * W k
def nqk (t : Cu) (W : Nat → Int) (i j k : Nat) : Nat → Int := fun a => if a = j then nS t W j i + rsP t i W j k else nq t W i j a
theorem nq_zero (W : Nat → Int) (i : Nat) : nq t W i 0 = fun a => nS t W a i := by
 funext a; unfold nq; rw [if_neg (Nat.not_lt_zero a)]
theorem nqk_zero (W : Nat → Int) (i j : Nat) : nqk t W i j 0 = nq t W i j := by
 funext a; unfold nqk
 split
 ·rename_i e; subst e; unfold nq; rw [if_neg (Nat.lt_irrefl a)]; exact Int.add_zero _
 ·rfl
theorem nqk_done (W : Nat → Int) (i j : Nat) : nqk t W i j t.length = nq t W i (j + 1) := by
 funext a; unfold nqk nq
 by_cases e : a = j
 ·subst e; rw [if_pos rfl, if_pos (Nat.lt_succ_self a)]; rfl
 ·rw [if_neg e]
  by_cases h : a < j
  ·rw [if_pos h, if_pos (by omega)]
  ·rw [if_neg h, if_neg (by omega)]
theorem nqk_step (W : Nat → Int) (i j k : Nat) : (fun a => if a = j then nS t W j i + rsP t i W j k + e3 t i j k * W k else nqk t W i j k a) = nqk t W i j (k + 1) := by
 funext a; unfold nqk
 by_cases e : a = j
 ·rw [if_pos e, if_pos e, Int.add_assoc]; rfl
 ·rw [if_neg e, if_neg e, if_neg e]
theorem nq_end (W : Nat → Int) (i : Nat) {n : Nat} (hn : t.length = n) : rowF n (nq t W i n) = rowF n fun a => nS t W a (i + 1) :=
 rowF_congr fun a ha => by unfold nq; rw [if_pos ha]
end Go.Pl
