import Derived.Test.YtjcfefgbieeheaaQd3
import Derived.Test.YtjcfefgbieeheaaQd1
import Derived.Test.YtjcfefgbieeheaaPl5
set_option linter.unusedSimpArgs false
set_option linter.unusedVariables false
namespace Go.Pl
open Go.Aw
variable {t : Cu}
def nxW (t : Cu) (W : Nat → Int) (j : Nat) : Int := sumTo (fun i => sumTo (fun k => e3 t i j k * W k) t.length) t.length
def wtS (t : Cu) : Nat → Nat → Int
 | 0 => fun _ => 1
 | s + 1 => nxW t (wtS t s)
def okW (t : Cu) (s : Nat) : Prop := ∀ r, r < s → ∀ j, j < t.length → wtS t (r + 1) j ≤ 1000000
def rsW (t : Cu) (i : Nat) (W : Nat → Int) (j : Nat) : Int := sumTo (fun k => e3 t i j k * W k) t.length
theorem okW_mono {s r : Nat} (h : okW t s) (hr : r ≤ s) : okW t r := fun x hx => h x (by omega)
theorem okW_succ {s : Nat} : okW t (s + 1) ↔ okW t s ∧ ∀ j, j < t.length → wtS t (s + 1) j ≤ 1000000 := by
 constructor
 ·exact fun h => ⟨okW_mono h (by omega), h s (Nat.lt_succ_self s)⟩
 ·rintro ⟨h1, h2⟩ r hr
  rcases Nat.lt_succ_iff_lt_or_eq.1 hr with h | rfl
  ·exact h1 r h
  ·exact h2
theorem rs_ge (h : RingP t) {W : Nat → Int} (hW : ∀ k, k < t.length → 1 ≤ W k) {i j : Nat} (hi : i < t.length) (hj : j < t.length) : 1 ≤ rsW t i W j := by
 obtain ⟨k, hk, ho⟩ := h.oc_some hi hj
 have h1 : e3 t i j k * W k ≤ rsW t i W j := term_le (f := fun k => e3 t i j k * W k) (fun a ha => Int.mul_nonneg (h.nn hi hj ha) (by have := hW a ha; omega)) hk
 have h2 : 1 * 1 ≤ e3 t i j k * W k := Int.mul_le_mul (by unfold Oc at ho; omega) (hW k hk) (by decide) (by unfold Oc at ho; omega)
 omega
theorem nx_ge (h : RingP t) {W : Nat → Int} (hW : ∀ k, k < t.length → 1 ≤ W k) {j : Nat} (hj : j < t.length) : 1 ≤ nxW t W j := by
 have h1 : rsW t 0 W j ≤ nxW t W j := term_le (f := fun i => rsW t i W j) (fun a ha => by have := rs_ge h hW ha hj; omega) h.pos
 have := rs_ge h hW h.pos hj
 omega
theorem wtS_ge (h : RingP t) : ∀ s j, j < t.length → 1 ≤ wtS t s j
 | 0, _, _ => Int.le_refl 1
 | s + 1, j, hj => nx_ge h (wtS_ge h s) hj
theorem wtS_le {s : Nat} (h : okW t s) : ∀ j, j < t.length → wtS t s j ≤ 1000000 := by
 cases s with
 | zero => intro j _; show (1 : Int) ≤ 1000000; decide
 | succ s => exact h s (Nat.lt_succ_self s)
structure Bd where
 lt : Int
 lb : Int
 ht : Int
 hb : Int
def bsF (t : Cu) (i : Nat) (W : Nat → Int) : Nat → Bd
 | 0 => ⟨0, 0, 0, 0⟩
 | j + 1 =>
  let s := bsF t i W j
  let lo := decide (j = 0) || decide (rsW t i W j * s.lb < s.lt * W j)
  let hi := decide (j = 0) || decide (s.ht * W j < rsW t i W j * s.hb)
  ⟨bif lo then rsW t i W j else s.lt, bif lo then W j else s.lb, bif hi then rsW t i W j else s.ht, bif hi then W j else s.hb⟩
def bsL (b : Bd) : List Int := [b.lt, b.lb, b.ht, b.hb]
theorem bs_ok {i : Nat} {W : Nat → Int} (hW : ∀ k, k < t.length → 1 ≤ W k) : ∀ m, 1 ≤ m → m ≤ t.length →
  (∃ j, j < m ∧ (bsF t i W m).lt = rsW t i W j ∧ (bsF t i W m).lb = W j) ∧ (∃ j, j < m ∧ (bsF t i W m).ht = rsW t i W j ∧ (bsF t i W m).hb = W j) ∧
  ∀ j, j < m → (bsF t i W m).lt * W j ≤ rsW t i W j * (bsF t i W m).lb ∧ rsW t i W j * (bsF t i W m).hb ≤ (bsF t i W m).ht * W j
 | 0, h, _ => absurd h (by decide)
 | m + 1, _, hm => by
  by_cases h0 : m = 0
  ·subst h0
   have e : bsF t i W (0 + 1) = ⟨rsW t i W 0, W 0, rsW t i W 0, W 0⟩ := rfl
   rw [e]
   refine ⟨⟨0, by omega, rfl, rfl⟩, ⟨0, by omega, rfl, rfl⟩, fun j hj => ?_⟩
   obtain rfl : j = 0 := by omega
   exact ⟨Int.le_refl _, Int.le_refl _⟩
  ·obtain ⟨⟨a, ha, a1, a2⟩, ⟨b, hb, b1, b2⟩, hall⟩ := bs_ok (i := i) hW m (by omega) (by omega)
   have Wm := hW m (by omega)
   obtain ⟨s, hs⟩ : ∃ s, bsF t i W m = s := ⟨_, rfl⟩
   have e : bsF t i W (m + 1) = ⟨bif decide (rsW t i W m * s.lb < s.lt * W m) then rsW t i W m else s.lt, bif decide (rsW t i W m * s.lb < s.lt * W m) then W m else s.lb,
     bif decide (s.ht * W m < rsW t i W m * s.hb) then rsW t i W m else s.ht, bif decide (s.ht * W m < rsW t i W m * s.hb) then W m else s.hb⟩ := by
    show (Bd.mk _ _ _ _) = _
    rw [hs, decide_eq_false h0]; rfl
   rw [hs] at a1 a2 b1 b2 hall
   rw [e]
   clear e hs
   have wa := hW a (by omega)
   have wb := hW b (by omega)
   refine ⟨?_, ?_, fun j hj => ⟨?_, ?_⟩⟩
   ·by_cases c : rsW t i W m * s.lb < s.lt * W m
    ·rw [decide_eq_true c]; exact ⟨m, by omega, rfl, rfl⟩
    ·rw [decide_eq_false c]; exact ⟨a, by omega, a1, a2⟩
   ·by_cases c : s.ht * W m < rsW t i W m * s.hb
    ·rw [decide_eq_true c]; exact ⟨m, by omega, rfl, rfl⟩
    ·rw [decide_eq_false c]; exact ⟨b, by omega, b1, b2⟩
   ·by_cases c : rsW t i W m * s.lb < s.lt * W m
    ·rw [decide_eq_true c]
     show rsW t i W m * W j ≤ rsW t i W j * W m
     by_cases e : j = m
     ·subst e; exact Int.le_refl _
     ·have h1 := (hall j (by omega)).1
      have wj := hW j (by omega)
      -- r m lb < lt W m, lt W j <= r j lb, lb > 0
      refine Int.le_of_mul_le_mul_right (a := s.lb) ?_ (by omega)
      have q1 : rsW t i W m * s.lb * W j ≤ s.lt * W m * W j := Int.mul_le_mul_of_nonneg_right (Int.le_of_lt c) (by omega)
      have q2 : s.lt * W j * W m ≤ rsW t i W j * s.lb * W m := Int.mul_le_mul_of_nonneg_right h1 (by omega)
      have q3 : rsW t i W m * W j * s.lb = rsW t i W m * s.lb * W j := Int.mul_right_comm ..
      have q4 : rsW t i W j * W m * s.lb = rsW t i W j * s.lb * W m := Int.mul_right_comm ..
      have q5 : s.lt * W m * W j = s.lt * W j * W m := Int.mul_right_comm ..
      omega
    ·rw [decide_eq_false c]
     show s.lt * W j ≤ rsW t i W j * s.lb
     by_cases e : j = m
     ·subst e; omega
     ·exact (hall j (by omega)).1
   ·by_cases c : s.ht * W m < rsW t i W m * s.hb
    ·rw [decide_eq_true c]
     show rsW t i W j * W m ≤ rsW t i W m * W j
     by_cases e : j = m
     ·subst e; exact Int.le_refl _
     ·have h1 := (hall j (by omega)).2
      have wj := hW j (by omega)
      refine Int.le_of_mul_le_mul_right (a := s.hb) ?_ (by omega)
      have q1 : s.ht * W m * W j ≤ rsW t i W m * s.hb * W j := Int.mul_le_mul_of_nonneg_right (Int.le_of_lt c) (by omega)
      have q2 : rsW t i W j * s.hb * W m ≤ s.ht * W j * W m := Int.mul_le_mul_of_nonneg_right h1 (by omega)
      have q3 : rsW t i W m * W j * s.hb = rsW t i W m * s.hb * W j := Int.mul_right_comm ..
      have q4 : rsW t i W j * W m * s.hb = rsW t i W j * s.hb * W m := Int.mul_right_comm ..
      have q5 : s.ht * W m * W j = s.ht * W j * W m := Int.mul_right_comm ..
      omega
    ·rw [decide_eq_false c]
     show rsW t i W j * s.hb ≤ s.ht * W j
     by_cases e : j = m
     ·subst e; omega
     ·exact (hall j (by omega)).2
theorem bs_order {i : Nat} {W : Nat → Int} (hn : 1 ≤ t.length) (hW : ∀ k, k < t.length → 1 ≤ W k) :
  1 ≤ (bsF t i W t.length).lb ∧ 1 ≤ (bsF t i W t.length).hb ∧ (bsF t i W t.length).lt * (bsF t i W t.length).hb ≤ (bsF t i W t.length).ht * (bsF t i W t.length).lb := by
 obtain ⟨⟨a, ha, a1, a2⟩, ⟨b, hb, b1, b2⟩, hall⟩ := bs_ok (i := i) hW t.length hn (Nat.le_refl _)
 have h1 := hW a ha
 have h2 := hW b hb
 refine ⟨by omega, by omega, ?_⟩
 have := (hall b hb).1
 rw [b2, b1]
 exact this
theorem sum_add2 {f g : Nat → Int} : ∀ {n : Nat}, sumTo (fun m => f m + g m) n = sumTo f n + sumTo g n
 | 0 => rfl
 | n + 1 => by
  have := sum_add2 (f := f) (g := g) (n := n)
  simp only [sumTo]
  omega
theorem DimF.row (h : RingP t) {d : Nat → Int} (hd : DimF t d) {i : Nat} (hi : i < t.length) (W : Nat → Int) :
  sumTo (fun j => d j * rsW t i W j) t.length = d i * sumTo (fun k => d k * W k) t.length := by
 have e1 : sumTo (fun j => d j * rsW t i W j) t.length = sumTo (fun j => sumTo (fun k => d j * (e3 t i j k * W k)) t.length) t.length := sum_congr fun j _ => cmul.symm
 rw [e1, sum_comm, ← cmul]
 refine sum_congr fun k hk => ?_
 have e2 : sumTo (fun j => d j * (e3 t i j k * W k)) t.length = sumTo (fun j => e3 t (dN t i) k j * d j) t.length * W k := by
  rw [← sum_mul]
  refine sum_congr fun j hj => ?_
  have := h.turn i hi j hj k hk
  rw [this, ← Int.mul_assoc, Int.mul_comm (d j)]
  rfl
 rw [e2, hd.mul _ (h.dlt hi) k hk, hd.dual h hi, Int.mul_assoc]
theorem bs_dim (h : RingP t) {d : Nat → Int} (hd : DimF t d) {i : Nat} (hi : i < t.length) {W : Nat → Int} (hW : ∀ k, k < t.length → 1 ≤ W k) :
  (bsF t i W t.length).lt ≤ d i * (bsF t i W t.length).lb ∧ d i * (bsF t i W t.length).hb ≤ (bsF t i W t.length).ht := by
 obtain ⟨-, -, hall⟩ := bs_ok (i := i) hW t.length h.pos (Nat.le_refl _)
 have hrow := hd.row h hi W
 have hS : 0 < sumTo (fun k => d k * W k) t.length := sum_pos h.pos fun k hk => Int.mul_pos (hd.pos k hk) (by have := hW k hk; omega)
 generalize bsF t i W t.length = s at *
 constructor
 ·refine Int.le_of_mul_le_mul_right (a := sumTo (fun k => d k * W k) t.length) ?_ hS
  have e1 : s.lt * sumTo (fun k => d k * W k) t.length = sumTo (fun j => d j * (s.lt * W j)) t.length := by
   rw [← cmul]; exact sum_congr fun k _ => Int.mul_left_comm ..
  have e2 : d i * s.lb * sumTo (fun k => d k * W k) t.length = sumTo (fun j => d j * (rsW t i W j * s.lb)) t.length := by
   rw [Int.mul_right_comm, ← hrow, ← sum_mul]; exact sum_congr fun k _ => Int.mul_assoc ..
  rw [e1, e2]
  exact sum_le_sum fun j hj => Int.mul_le_mul_of_nonneg_left (hall j hj).1 (Int.le_of_lt (hd.pos j hj))
 ·refine Int.le_of_mul_le_mul_right (a := sumTo (fun k => d k * W k) t.length) ?_ hS
  have e1 : s.ht * sumTo (fun k => d k * W k) t.length = sumTo (fun j => d j * (s.ht * W j)) t.length := by
   rw [← cmul]; exact sum_congr fun k _ => Int.mul_left_comm ..
  have e2 : d i * s.hb * sumTo (fun k => d k * W k) t.length = sumTo (fun j => d j * (rsW t i W j * s.hb)) t.length := by
   rw [Int.mul_right_comm, ← hrow, ← sum_mul]; exact sum_congr fun k _ => Int.mul_assoc ..
  rw [e1, e2]
  exact sum_le_sum fun j hj => Int.mul_le_mul_of_nonneg_left (hall j hj).2 (Int.le_of_lt (hd.pos j hj))
theorem bs_one (h : RingP t) {i : Nat} (hi : i < t.length) :
  ((bsF t i (fun _ => 1) t.length).lt = (bsF t i (fun _ => 1) t.length).lb ∧ (bsF t i (fun _ => 1) t.length).ht = (bsF t i (fun _ => 1) t.length).hb) ↔ InvL t i := by
 obtain ⟨⟨a, ha, a1, a2⟩, ⟨b, hb, b1, b2⟩, hall⟩ := bs_ok (i := i) (W := fun _ => 1) (fun _ _ => Int.le_refl 1) t.length h.pos (Nat.le_refl _)
 have hr : ∀ j, rsW t i (fun _ => 1) j = sumTo (e3 t i j) t.length := fun j => sum_congr fun k _ => Int.mul_one _
 generalize bsF t i (fun _ => 1) t.length = s at *
 have a2 : s.lb = 1 := a2
 have b2 : s.hb = 1 := b2
 rw [a2, b2]
 constructor
 ·rintro ⟨e1, e2⟩
  have hj : ∀ j, j < t.length → rsW t i (fun _ => 1) j = 1 := fun j hj => by
   have := hall j hj
   simp only [a2, b2, e1, e2, Int.mul_one] at this
   omega
  have hd := h.dlt hi
  have h1 := hj _ hd
  rw [hr] at h1
  have h0 : e3 t i (dN t i) 0 = 1 := by
   have := h.turn i hi _ hd 0 h.pos
   rw [this]
   show e3 t (dN t i) 0 (dN t i) = 1
   rw [h.right _ hd _ hd]
   unfold dl
   rw [if_pos rfl]
  intro k hk
  by_cases e : k = 0
  ·rw [if_pos e, e, h0]
  ·rw [if_neg e]
   have nn := fun a (ha : a < t.length) => h.nn hi hd ha
   have hs : sumTo (fun m => if m = 0 then e3 t i (dN t i) 0 else if m = k then e3 t i (dN t i) k else 0) t.length ≤ sumTo (e3 t i (dN t i)) t.length := sum_le_sum fun m hm => by
    by_cases e0 : m = 0
    ·rw [if_pos e0, e0]; exact Int.le_refl _
    ·rw [if_neg e0]
     by_cases ek : m = k
     ·rw [if_pos ek, ek]; exact Int.le_refl _
     ·rw [if_neg ek]; exact nn m hm
   have hs2 : sumTo (fun m => if m = 0 then e3 t i (dN t i) 0 else if m = k then e3 t i (dN t i) k else 0) t.length = e3 t i (dN t i) 0 + e3 t i (dN t i) k := by
    have e1 : sumTo (fun m => if m = 0 then e3 t i (dN t i) 0 else if m = k then e3 t i (dN t i) k else 0) t.length = sumTo (fun m => (if m = 0 then e3 t i (dN t i) m else 0) + (if m = k then e3 t i (dN t i) m else 0)) t.length := sum_congr fun m _ => by
     by_cases e0 : m = 0
     ·rw [if_pos e0, if_pos e0, if_neg (fun hk => e (by omega)), e0]; omega
     ·rw [if_neg e0, if_neg e0]
      by_cases ek : m = k
      ·rw [if_pos ek, if_pos ek, ek]; omega
      ·rw [if_neg ek, if_neg ek]; omega
    rw [e1, sum_add2, sum_one h.pos, sum_one hk]
   have := nn k hk
   rw [hs2, h1, h0] at hs
   omega
 ·intro hI
  have hp := h.perm hi (h.dlt hi) hI
  have : ∀ j, j < t.length → rsW t i (fun _ => 1) j = 1 := fun j hj => by rw [hr]; exact hp j hj
  rw [a1, b1, this a ha, this b hb]
  exact ⟨rfl, rfl⟩
theorem rs_nx (h : RingP t) (hc : CommP t) {i j : Nat} (hi : i < t.length) (hj : j < t.length) (V : Nat → Int) :
  rsW t i (nxW t V) j = sumTo (fun a => sumTo (fun k => e3 t a j k * rsW t i V k) t.length) t.length := by
 have e1 : rsW t i (nxW t V) j = sumTo (fun a => sumTo (fun l => sumTo (fun k => e3 t i j k * e3 t a k l) t.length * V l) t.length) t.length := by
  have s1 : rsW t i (nxW t V) j = sumTo (fun k => sumTo (fun a => e3 t i j k * sumTo (fun l => e3 t a k l * V l) t.length) t.length) t.length := sum_congr fun k _ => cmul.symm
  rw [s1, sum_comm]
  refine sum_congr fun a _ => ?_
  have s2 : sumTo (fun k => e3 t i j k * sumTo (fun l => e3 t a k l * V l) t.length) t.length = sumTo (fun k => sumTo (fun l => e3 t i j k * (e3 t a k l * V l)) t.length) t.length := sum_congr fun k _ => cmul.symm
  rw [s2, sum_comm]
  refine sum_congr fun l _ => ?_
  rw [← sum_mul]
  exact sum_congr fun k _ => (Int.mul_assoc ..).symm
 have e2 : sumTo (fun a => sumTo (fun k => e3 t a j k * rsW t i V k) t.length) t.length = sumTo (fun a => sumTo (fun l => sumTo (fun k => e3 t a j k * e3 t i k l) t.length * V l) t.length) t.length := by
  refine sum_congr fun a _ => ?_
  have s2 : sumTo (fun k => e3 t a j k * rsW t i V k) t.length = sumTo (fun k => sumTo (fun l => e3 t a j k * (e3 t i k l * V l)) t.length) t.length := sum_congr fun k _ => cmul.symm
  rw [s2, sum_comm]
  refine sum_congr fun l _ => ?_
  rw [← sum_mul]
  exact sum_congr fun k _ => (Int.mul_assoc ..).symm
 rw [e1, e2]
 refine sum_congr fun a ha => sum_congr fun l hl => ?_
 have b1 := h.brack a ha i hi j hj l hl
 have b2 := h.brack i hi a ha j hj l hl
 have b3 : sumTo (brL t a i j l) t.length = sumTo (brL t i a j l) t.length := sum_congr fun m _ => by
  unfold brL
  have : e3 t a i m = e3 t i a m := by
   show ((t.getD a []).getD i []).getD m 0 = ((t.getD i []).getD a []).getD m 0
   rw [hc a ha i hi]
  rw [this]
 have b4 : sumTo (brR t a i j l) t.length = sumTo (brR t i a j l) t.length := by rw [← b1, b3, b2]
 exact congrArg (· * V l) b4
theorem bs_narrow (h : RingP t) (hc : CommP t) {i : Nat} (hi : i < t.length) {V : Nat → Int} (hV : ∀ k, k < t.length → 1 ≤ V k) :
  (bsF t i V t.length).lt * (bsF t i (nxW t V) t.length).lb ≤ (bsF t i (nxW t V) t.length).lt * (bsF t i V t.length).lb ∧
  (bsF t i (nxW t V) t.length).ht * (bsF t i V t.length).hb ≤ (bsF t i V t.length).ht * (bsF t i (nxW t V) t.length).hb := by
 have hW : ∀ k, k < t.length → 1 ≤ nxW t V k := fun k hk => nx_ge h hV hk
 obtain ⟨-, -, hall⟩ := bs_ok (i := i) hV t.length h.pos (Nat.le_refl _)
 obtain ⟨⟨a, ha, a1, a2⟩, ⟨b, hb, b1, b2⟩, -⟩ := bs_ok (i := i) hW t.length h.pos (Nat.le_refl _)
 generalize bsF t i V t.length = s at *
 rw [a1, a2, b1, b2, rs_nx h hc hi ha, rs_nx h hc hi hb]
 have nn := fun x (hx : x < t.length) y (hy : y < t.length) z (hz : z < t.length) => h.nn hx hy hz
 constructor
 ·have e1 : s.lt * nxW t V a = sumTo (fun x => sumTo (fun k => e3 t x a k * (s.lt * V k)) t.length) t.length := by
   unfold nxW
   rw [← cmul]
   refine sum_congr fun x _ => ?_
   rw [← cmul]
   exact sum_congr fun k _ => Int.mul_left_comm ..
  have e2 : sumTo (fun x => sumTo (fun k => e3 t x a k * rsW t i V k) t.length) t.length * s.lb = sumTo (fun x => sumTo (fun k => e3 t x a k * (rsW t i V k * s.lb)) t.length) t.length := by
   rw [← sum_mul]
   refine sum_congr fun x _ => ?_
   rw [← sum_mul]
   exact sum_congr fun k _ => Int.mul_assoc ..
  rw [e1, e2]
  exact sum_le_sum fun x hx => sum_le_sum fun k hk => Int.mul_le_mul_of_nonneg_left (hall k hk).1 (nn x hx a ha k hk)
 ·have e1 : s.ht * nxW t V b = sumTo (fun x => sumTo (fun k => e3 t x b k * (s.ht * V k)) t.length) t.length := by
   unfold nxW
   rw [← cmul]
   refine sum_congr fun x _ => ?_
   rw [← cmul]
   exact sum_congr fun k _ => Int.mul_left_comm ..
  have e2 : sumTo (fun x => sumTo (fun k => e3 t x b k * rsW t i V k) t.length) t.length * s.hb = sumTo (fun x => sumTo (fun k => e3 t x b k * (rsW t i V k * s.hb)) t.length) t.length := by
   rw [← sum_mul]
   refine sum_congr fun x _ => ?_
   rw [← sum_mul]
   exact sum_congr fun k _ => Int.mul_assoc ..
  rw [e1, e2]
  exact sum_le_sum fun x hx => sum_le_sum fun k hk => Int.mul_le_mul_of_nonneg_left (hall k hk).2 (nn x hx b hb k hk)
noncomputable def wR (t : Cu) (s : Int) : Option (List Int) × Int := if bd (okW t s.toNat) = true then (some (rowF t.length (wtS t s.toNat)), 0) else (none, 3)
noncomputable def wtR (t : Cu) (s : Int) : Option (List Int) × Int := if isRing t = true then (if 0 ≤ s ∧ s ≤ 20 then wR t s else (none, 2)) else (none, 1)
noncomputable def boR (t : Cu) (i s : Int) : List Int × Int :=
 if isRing t = true then (if (0 ≤ i ∧ i < t.length) ∧ 0 ≤ s ∧ s ≤ 20 then (if bd (okW t s.toNat) = true then (bsL (bsF t i.toNat (wtS t s.toNat) t.length), 0) else ([0, 0, 0, 0], 3)) else ([0, 0, 0, 0], 2)) else ([0, 0, 0, 0], 1)
end Go.Pl
namespace Go.Pl
open Go.Aw
variable {t : Cu}
def nS (t : Cu) (W : Nat → Int) (a : Nat) : Nat → Int := sumTo fun x => rsW t x W a
def nq (t : Cu) (W : Nat → Int) (i j : Nat) : Nat → Int := fun a => if a < j then nS t W a (i + 1) else nS t W a i
def rsP (t : Cu) (i : Nat) (W : Nat → Int) (j : Nat) : Nat → Int := sumTo fun k => e3 t i j k * W k
def nqk (t : Cu) (W : Nat → Int) (i j k : Nat) : Nat → Int := fun a => if a = j then nS t W j i + rsP t i W j k else nq t W i j a
theorem nq_zero (W : Nat → Int) (i : Nat) : nq t W i 0 = fun a => nS t W a i := by
 funext a; unfold nq; rw [if_neg (Nat.not_lt_zero a)]
theorem nqk_zero (W : Nat → Int) (i j : Nat) : nqk t W i j 0 = nq t W i j := by
 funext a; unfold nqk
 split
 ·rename_i e; subst e; unfold nq; rw [if_neg (Nat.lt_irrefl a)]; exact Int.add_zero _
 ·rfl
theorem nqk_done (W : Nat → Int) (i j : Nat) : nqk t W i j t.length = nq t W i (j + 1) := by
 funext a; unfold nqk nq
 by_cases e : a = j
 ·subst e; rw [if_pos rfl, if_pos (Nat.lt_succ_self a)]; rfl
 ·rw [if_neg e]
  by_cases h : a < j
  ·rw [if_pos h, if_pos (by omega)]
  ·rw [if_neg h, if_neg (by omega)]
theorem nqk_step (W : Nat → Int) (i j k : Nat) : (fun a => if a = j then nS t W j i + rsP t i W j k + e3 t i j k * W k else nqk t W i j k a) = nqk t W i j (k + 1) := by
 funext a; unfold nqk
 by_cases e : a = j
 ·rw [if_pos e, if_pos e, Int.add_assoc]; rfl
 ·rw [if_neg e, if_neg e, if_neg e]
theorem nq_end (W : Nat → Int) (i : Nat) {n : Nat} (hn : t.length = n) : rowF n (nq t W i n) = rowF n fun a => nS t W a (i + 1) :=
 rowF_congr fun a ha => by unfold nq; rw [if_pos ha]
def WB (n : Nat) (W : Nat → Int) : Prop := ∀ k, k < n → 0 ≤ W k ∧ W k ≤ 1000000
theorem tm_bd (hc : Cube t) {W : Nat → Int} (hW : WB t.length W) {i j k : Nat} (hi : i < t.length) (hj : j < t.length) (hk : k < t.length) : 0 ≤ e3 t i j k * W k ∧ e3 t i j k * W k ≤ 1000000000 := by
 have h1 : 0 ≤ e3 t i j k ∧ e3 t i j k ≤ 1000 := hc.inM hi hj hk
 have h2 := hW k hk
 refine ⟨Int.mul_nonneg h1.1 h2.1, ?_⟩
 have : e3 t i j k * W k ≤ 1000 * 1000000 := Int.mul_le_mul h1.2 h2.2 h2.1 (by decide)
 omega
theorem rsP_bd (hc : Cube t) {W : Nat → Int} (hW : WB t.length W) {i j k : Nat} (hi : i < t.length) (hj : j < t.length) (hk : k ≤ t.length) : 0 ≤ rsP t i W j k ∧ rsP t i W j k ≤ 16000000000 := by
 have h := sumTo_le (f := fun k => e3 t i j k * W k) (B := 1000000000) (n := k) fun a ha => tm_bd hc hW hi hj (by omega)
 have h16 := hc.2.1
 unfold rsP
 constructor
 ·exact h.1
 ·refine Int.le_trans h.2 ?_
  omega
theorem nS_bd (hc : Cube t) {W : Nat → Int} (hW : WB t.length W) {a i : Nat} (ha : a < t.length) (hi : i ≤ t.length) : 0 ≤ nS t W a i ∧ nS t W a i ≤ 256000000000 := by
 have h := sumTo_le (f := fun x => rsW t x W a) (B := 16000000000) (n := i) fun x hx => rsP_bd hc hW (show x < t.length by omega) ha (Nat.le_refl _)
 have h16 := hc.2.1
 unfold nS
 constructor
 ·exact h.1
 ·refine Int.le_trans h.2 ?_
  omega
theorem bs_bd (hc : Cube t) {W : Nat → Int} (hW : WB t.length W) {i : Nat} (hi : i < t.length) : ∀ m, m ≤ t.length →
  (0 ≤ (bsF t i W m).lt ∧ (bsF t i W m).lt ≤ 16000000000) ∧ (0 ≤ (bsF t i W m).lb ∧ (bsF t i W m).lb ≤ 1000000) ∧ (0 ≤ (bsF t i W m).ht ∧ (bsF t i W m).ht ≤ 16000000000) ∧ 0 ≤ (bsF t i W m).hb ∧ (bsF t i W m).hb ≤ 1000000
 | 0, _ => by
  show ((0 : Int) ≤ 0 ∧ (0 : Int) ≤ 16000000000) ∧ ((0 : Int) ≤ 0 ∧ (0 : Int) ≤ 1000000) ∧ ((0 : Int) ≤ 0 ∧ (0 : Int) ≤ 16000000000) ∧ (0 : Int) ≤ 0 ∧ (0 : Int) ≤ 1000000
  omega
 | m + 1, hm => by
  obtain ⟨h1, h2, h3, h4⟩ := bs_bd hc hW hi m (by omega)
  have hr : 0 ≤ rsW t i W m ∧ rsW t i W m ≤ 16000000000 := rsP_bd hc hW hi (show m < t.length by omega) (Nat.le_refl _)
  have hw := hW m (by omega)
  unfold bsF
  simp only
  refine ⟨?_, ?_, ?_, ?_⟩
  ·cases (decide (m = 0) || decide (rsW t i W m * (bsF t i W m).lb < (bsF t i W m).lt * W m))
   ·exact h1
   ·exact hr
  ·cases (decide (m = 0) || decide (rsW t i W m * (bsF t i W m).lb < (bsF t i W m).lt * W m))
   ·exact h2
   ·exact hw
  ·cases (decide (m = 0) || decide ((bsF t i W m).ht * W m < rsW t i W m * (bsF t i W m).hb))
   ·exact h3
   ·exact hr
  ·cases (decide (m = 0) || decide ((bsF t i W m).ht * W m < rsW t i W m * (bsF t i W m).hb))
   ·exact h4
   ·exact hw
theorem mul16 {a b : Int} (ha : 0 ≤ a ∧ a ≤ 16000000000) (hb : 0 ≤ b ∧ b ≤ 1000000) : 0 ≤ a * b ∧ a * b ≤ 16000000000000000 := by
 refine ⟨Int.mul_nonneg ha.1 hb.1, ?_⟩
 have : a * b ≤ 16000000000 * 1000000 := Int.mul_le_mul ha.2 hb.2 hb.1 (by decide)
 omega
theorem wtS_WB (h : RingP t) {s : Nat} (hk : okW t s) : WB t.length (wtS t s) := fun k hk' => by
 have h1 := wtS_ge h s k hk'
 have h2 := wtS_le hk k hk'
 omega
end Go.Pl
