import Derived.Test.YtlngnhbochmcoaaPl5
import Derived.Test.YtlngnhbochmcoaaPl6
set_option linter.unusedSimpArgs false
set_option linter.unusedVariables false
namespace Go.Pl
open Go.Aw
def fmm (a b : Nat) : Nat := a * b % 55441
def fpm (x : Nat) : Nat :=
 let a := fmm (fmm x x) x
 let a := fmm a a
 let a := fmm (fmm a a) x
 let a := fmm (fmm a a) x
 let a := fmm a a
 let a := fmm a a
 let a := fmm a a
 let a := fmm (fmm a a) x
 let a := fmm a a
 let a := fmm a a
 let a := fmm (fmm a a) x
 let a := fmm a a
 let a := fmm a a
 let a := fmm a a
 fmm a a
def fok (x : Nat) : Bool := Nat.ble 55441 x || Nat.beq x 0 || Nat.beq (fpm x) 1
def aW4 (lo : Nat) : Nat → Bool
 | 0 => fok lo
 | d + 1 => aW4 lo d && aW4 (lo + 2 ^ d) d
theorem YA_ : ∀ (d lo : Nat), aW4 lo d = true → ∀ x, lo ≤ x → x < lo + 2 ^ d → fok x = true
 | 0, lo, h, x, h1, h2 => by
  have : x = lo := by omega
  subst this
  exact h
 | d + 1, lo, h, x, h1, h2 => by
  simp only [aW4, Bool.and_eq_true] at h
  by_cases hx : x < lo + 2 ^ d
  ·exact YA_ d lo h.1 x h1 hx
  ·exact YA_ d (lo + 2 ^ d) h.2 x (by omega) (by rw [Nat.pow_succ] at h2; omega)
set_option maxRecDepth 100000 in
theorem aq4 : aW4 0 16 = true := by decide +kernel
theorem aG6 (x m n : Nat) : fmm (x ^ m % 55441) (x ^ n % 55441) = x ^ (m + n) % 55441 := by unfold fmm; rw [← Nat.mul_mod, Nat.pow_add]
theorem aG7 (x m : Nat) : fmm (x ^ m % 55441) x = x ^ (m + 1) % 55441 := by unfold fmm; rw [Nat.pow_succ, Nat.mul_mod, Nat.mod_mod, ← Nat.mul_mod]
def fE : Nat := 55439
def PW (x m a : Nat) : Prop := a = x ^ m % 55441
theorem PW.dbl {x m a : Nat} (h : PW x m a) : PW x (m + m) (fmm a a) := by
 unfold PW at h ⊢
 subst h
 exact aG6 x m m
theorem PW.inc {x m a : Nat} (h : PW x m a) : PW x (m + 1) (fmm a x) := by
 unfold PW at h ⊢
 subst h
 exact aG7 x m
theorem PW.to {x m a k : Nat} (h : PW x m a) (e : m = k) : PW x k a := e ▸ h
theorem aW5 (x : Nat) : PW x (fE + 1) (fpm x) := by
 have h0 : PW x 2 (fmm x x) := by unfold PW fmm; rw [Nat.pow_succ, Nat.pow_one]
 have h1 := (h0.inc.dbl.dbl.inc.dbl.inc.dbl.dbl.dbl.dbl.inc.dbl.dbl.dbl.inc.dbl.dbl.dbl.dbl)
 exact h1.to (by decide)
theorem aW6 (x : Nat) : fpm x = x ^ (fE + 1) % 55441 := aW5 x
theorem aW7 {x : Nat} (h0 : x ≠ 0) (h : x < 55441) : x ^ (fE + 1) % 55441 = 1 := by
 have h1 := YA_ 16 0 aq4 x (Nat.zero_le _) (by omega)
 unfold fok at h1
 simp only [Bool.or_eq_true, Nat.ble_eq, Nat.beq_eq] at h1
 rw [← aW6]
 omega
theorem wZ_ {x : Int} (h : InP x) (h0 : x ≠ 0) : x * inv x % 55441 = 1 := by
 obtain ⟨k, rfl⟩ := Int.eq_ofNat_of_zero_le h.1
 have h2 := h.2
 have hi : inv (k : Int) % 55441 = (k : Int) ^ fE % 55441 := aU8 h
 rw [cgm rfl hi, Int.mul_comm, ← Int.pow_succ]
 have h3 := aW7 (x := k) (by omega) (by omega)
 have h4 : ((k ^ (fE + 1) % 55441 : Nat) : Int) = 1 := by rw [h3]; rfl
 rw [Int.natCast_emod, Int.natCast_pow] at h4
 exact h4
def Cg (a b : Int) : Prop := a % 55441 = b % 55441
theorem Cg.mul {a a' b b' : Int} (h1 : Cg a a') (h2 : Cg b b') : Cg (a * b) (a' * b') := cgm h1 h2
theorem Cg.sum {f g : Nat → Int} {n : Nat} (h : ∀ i, i < n → Cg (f i) (g i)) : Cg (sumTo f n) (sumTo g n) := WU_ h
theorem Cg.of {a b : Int} (h : a = b) : Cg a b := by rw [h]; rfl
theorem Cg.md (a : Int) : Cg (a % 55441) a := emd a
theorem aG8 {f g : Nat → Int} {n : Nat} : sumTo (fun i => f i + g i) n = sumTo f n + sumTo g n := by
 induction n with
 | zero => rfl
 | succ n ih => simp only [sumTo]; rw [ih]; omega
theorem sum_zero {n : Nat} : sumTo (fun _ => 0) n = 0 := by
 induction n with
 | zero => rfl
 | succ n ih => simp only [sumTo]; rw [ih]; rfl
theorem z0_ {f : Nat → Nat → Int} {m n : Nat} : sumTo (fun i => sumTo (fun j => f i j) m) n = sumTo (fun j => sumTo (fun i => f i j) n) m := by
 induction n with
 | zero => simp only [sumTo]; exact sum_zero.symm
 | succ n ih => simp only [sumTo]; rw [ih, ← aG8]
theorem mul_sum {f : Nat → Int} {c : Int} {n : Nat} : sumTo (fun i => c * f i) n = c * sumTo f n := by
 rw [Int.mul_comm, ← sum_mul]
 exact xs_ fun i _ => Int.mul_comm _ _
theorem VQ_ {f : Nat → Int} {x : Int} {n j : Nat} (hj : j < n) : sumTo (fun k => (if k = j then x else 0) * f k) n = x * f j := by
 rw [← Z4_ (f := fun k => x * f k) hj]
 refine xs_ fun k _ => ?_
 by_cases h : k = j
 ·rw [if_pos h, if_pos h]
 ·rw [if_neg h, if_neg h, Int.zero_mul]
theorem Cg.cancel {w a b : Int} (hw : InP w) (h0 : w ≠ 0) (h : Cg (w * a) (w * b)) : Cg a b := by
 have e : ∀ x : Int, Cg (inv w * (w * x)) x := fun x => by
  have h1 : Cg (inv w * (w * x)) (1 * x) := by
   rw [← Int.mul_assoc, Int.mul_comm (inv w)]
   exact Cg.mul (wZ_ hw h0) rfl
  rw [Int.one_mul] at h1
  exact h1
 exact (e a).symm.trans ((Cg.mul (Eq.refl (inv w % 55441)) h).trans (e b))
theorem Cg.eq {a b : Int} (ha : InP a) (hb : InP b) (h : Cg a b) : a = b := by
 rw [← SR_ ha, ← SR_ hb]
 exact h
section
variable {s : List (List Int)} {t : List Int}
end
end Go.Pl
namespace Go.Pl
open Go.Aw
theorem VR_ {α : Type} {a b : Option α} (h : orE a b = none) : a = none ∧ b = none := by
 cases a with
 | none => exact ⟨rfl, h⟩
 | some x => cases h
structure RingP (t : List (List (List Int))) : Prop where
 cube : Cube t
 left : ∀ i, i < t.length → ∀ k, k < t.length → e3 t 0 i k = dl i k
 right : ∀ i, i < t.length → ∀ k, k < t.length → e3 t i 0 k = dl i k
 dual : ∀ i, i < t.length → 0 ≤ dual t i ∧ dual t i < t.length
 invo : ∀ i, i < t.length → Pl.dual t (Pl.dual t i).toNat = i
 turn : ∀ i, i < t.length → ∀ j, j < t.length → ∀ k, k < t.length → e3 t i j k = e3 t (Pl.dual t i).toNat k j
 turn2 : ∀ i, i < t.length → ∀ j, j < t.length → ∀ k, k < t.length → e3 t i j k = e3 t k (Pl.dual t j).toNat i
 brack : ∀ i, i < t.length → ∀ j, j < t.length → ∀ k, k < t.length → ∀ l, l < t.length → sumTo (brL t i j k l) t.length = sumTo (brR t i j k l) t.length
theorem aq5 {t : List (List (List Int))} (h : zM_ t = true) : RingP t := by
 obtain ⟨hc, hf⟩ := Xr_ h
 unfold yh_ at hf
 obtain ⟨h1, hf⟩ := VR_ hf
 obtain ⟨h2, hf⟩ := VR_ hf
 obtain ⟨h3, h4⟩ := VR_ hf
 have g1 : ∀ i, i < t.length → ∀ k, k < t.length → e3 t 0 i k = dl i k ∧ e3 t i 0 k = dl i k := fun i hi k hk => by
  have := first_none_iff.1 (first_none_iff.1 h1 i hi) k hk
  unfold TZ_ at this
  split at this
  ·cases this
  ·rename_i hh
   simp only [ne_eq, not_or, Decidable.not_not] at hh
   exact hh
 have g2 : ∀ i, i < t.length → 0 ≤ Pl.dual t i ∧ Pl.dual t (Pl.dual t i).toNat = i := fun i hi => by
  have := first_none_iff.1 h2 i hi
  unfold Qr_ at this
  split at this
  ·cases this
  ·rename_i hh
   simp only [ne_eq, not_or, Decidable.not_not] at hh
   omega
 have g3 : ∀ i, i < t.length → ∀ j, j < t.length → ∀ k, k < t.length → e3 t i j k = e3 t (Pl.dual t i).toNat k j ∧ e3 t i j k = e3 t k (Pl.dual t j).toNat i := fun i hi j hj k hk => by
  have := first_none_iff.1 (first_none_iff.1 (first_none_iff.1 h3 i hi) j hj) k hk
  unfold VH_ at this
  split at this
  ·cases this
  ·rename_i hh
   simp only [ne_eq, not_or, Decidable.not_not] at hh
   exact hh
 refine ⟨hc, fun i hi k hk => (g1 i hi k hk).1, fun i hi k hk => (g1 i hi k hk).2, fun i hi => ?_, fun i hi => ?_, fun i hi j hj k hk => (g3 i hi j hj k hk).1, fun i hi j hj k hk => (g3 i hi j hj k hk).2, fun i hi j hj k hk l hl => ?_⟩
 ·have h := (g2 i hi).1
  have hr := Xq_ (g := fun j => e3 t i j 0) (n := t.length) (List.range t.length) (-1) (fun j hj => by simpa using hj) (by omega) (by omega)
  exact ⟨h, hr.2⟩
 ·exact (g2 i hi).2
 ·have := first_none_iff.1 (first_none_iff.1 (first_none_iff.1 (first_none_iff.1 h4 i hi) j hj) k hk) l hl
  unfold wL_ at this
  split at this
  ·cases this
  ·rename_i hh
   exact Decidable.not_not.1 hh
theorem we_ {f g : Nat → Int} : ∀ {n : Nat}, (∀ i, i < n → f i ≤ g i) → sumTo f n ≤ sumTo g n
 | 0, _ => Int.le_refl _
 | n + 1, h => by
  have h1 := we_ (n := n) (fun i hi => h i (by omega))
  have h2 := h n (by omega)
  simp only [sumTo]
  omega
theorem YB_ {f g : Nat → Int} : ∀ {n : Nat}, (∀ i, i < n → f i ≤ g i) → sumTo f n = sumTo g n → ∀ i, i < n → f i = g i
 | 0, _, _, i, hi => by omega
 | n + 1, h, e, i, hi => by
  have h1 := we_ (n := n) (fun i hi => h i (by omega))
  have h2 := h n (by omega)
  simp only [sumTo] at e
  by_cases hin : i = n
  ·subst hin; omega
  ·exact YB_ (n := n) (fun i hi => h i (by omega)) (by omega) i (by omega)
theorem We_ {c : Int} {n : Nat} : sumTo (fun _ => c) n = n * c := by
 induction n with
 | zero => simp [sumTo]
 | succ n ih => simp only [sumTo]; rw [ih, Int.natCast_add, Int.add_mul]; simp
theorem aW8 {x : Int} (h : 0 ≤ x) : x ≤ x * x := by
 by_cases h0 : x = 0
 ·subst h0; decide
 ·have : 1 * x ≤ x * x := Int.mul_le_mul_of_nonneg_right (by omega) h
  omega
theorem aW9 {x : Int} (h : 0 ≤ x) (h1 : x * x ≤ 1) : x * x = x := by
 have := aW8 h
 by_cases h0 : x = 0
 ·subst h0; decide
 ·have : x = 1 := by omega
  subst this; decide
theorem JN_ {f : Nat → Int} {n i : Nat} (h : ∀ i, i < n → 0 ≤ f i) (hi : i < n) : f i ≤ sumTo f n := by
 have h1 := we_ (f := fun k => if k = i then f k else 0) (g := f) (n := n) (fun k hk => by
  by_cases e : k = i
  ·rw [if_pos e]; exact Int.le_refl _
  ·rw [if_neg e]; exact h k hk)
 rw [Z4_ hi] at h1
 exact h1
theorem row_one {n : Nat} {A : Nat → Nat → Int} (h0 : ∀ i, i < n → ∀ j, j < n → 0 ≤ A i j) (ho : ∀ j, j < n → ∀ l, l < n → sumTo (fun m => A m j * A m l) n = if j = l then 1 else 0) : ∀ m, m < n → sumTo (A m) n = 1 := by
 have hsq : ∀ m, m < n → ∀ j, j < n → A m j * A m j = A m j := fun m hm j hj => by
  have h1 := ho j hj j hj
  rw [if_pos rfl] at h1
  have h2 := JN_ (f := fun m => A m j * A m j) (fun i hi => Int.mul_nonneg (h0 i hi j hj) (h0 i hi j hj)) hm
  exact aW9 (h0 m hm j hj) (by omega)
 have hcol : ∀ j, j < n → sumTo (fun m => A m j) n = 1 := fun j hj => by
  have h1 := ho j hj j hj
  rw [if_pos rfl] at h1
  rw [← h1]
  exact xs_ fun m hm => (hsq m hm j hj).symm
 have hr : sumTo (fun m => sumTo (A m) n) n = n := by
  have : sumTo (fun m => sumTo (fun j => A m j) n) n = sumTo (fun _ => 1) n := by
   rw [z0_]
   exact xs_ hcol
  rw [We_, Int.mul_one] at this
  exact this
 have hr2 : sumTo (fun m => sumTo (A m) n * sumTo (A m) n) n = n := by
  have e1 : sumTo (fun m => sumTo (A m) n * sumTo (A m) n) n = sumTo (fun m => sumTo (fun j => sumTo (fun l => A m j * A m l) n) n) n := xs_ fun m _ => by
   rw [← sum_mul]
   exact xs_ fun j _ => mul_sum.symm
  rw [e1, z0_]
  have e2 : sumTo (fun j => sumTo (fun m => sumTo (fun l => A m j * A m l) n) n) n = sumTo (fun _ => 1) n := xs_ fun j hj => by
   rw [z0_]
   have e3' : sumTo (fun l => sumTo (fun m => A m j * A m l) n) n = sumTo (fun l => (if l = j then 1 else 0) * 1) n := xs_ fun l hl => by
    rw [ho j hj l hl, Int.mul_one]
    by_cases e : j = l
    ·rw [if_pos e, if_pos e.symm]
    ·rw [if_neg e, if_neg (fun h => e h.symm)]
   rw [e3', VQ_ (f := fun _ => 1) hj]; rfl
  rw [e2, We_, Int.mul_one]
 have hnn : ∀ m, m < n → 0 ≤ sumTo (A m) n := fun m hm => by
  have := we_ (f := fun _ => 0) (g := A m) (n := n) (h0 m hm)
  rw [sum_zero] at this
  exact this
 have h1 := YB_ (f := fun m => sumTo (A m) n) (g := fun m => sumTo (A m) n * sumTo (A m) n) (n := n) (fun m hm => aW8 (hnn m hm)) (hr.trans hr2.symm)
 have hle : ∀ m, m < n → sumTo (A m) n ≤ 1 := fun m hm => by
  have h2 : sumTo (A m) n = sumTo (A m) n * sumTo (A m) n := h1 m hm
  by_cases hz : sumTo (A m) n ≤ 1
  ·exact hz
  ·have h3 : 2 * sumTo (A m) n ≤ sumTo (A m) n * sumTo (A m) n := Int.mul_le_mul_of_nonneg_right (by omega) (hnn m hm)
   omega
 exact YB_ (f := fun m => sumTo (A m) n) (g := fun _ => 1) (n := n) hle (by rw [hr, We_, Int.mul_one])
theorem RingP.perm {t : List (List (List Int))} (h : RingP t) {i j0 : Nat} (hi : i < t.length) (hj0 : j0 < t.length) (hr : ∀ m, m < t.length → e3 t i j0 m = if m = 0 then 1 else 0) : ∀ m, m < t.length → sumTo (e3 t i m) t.length = 1 := by
 have hd : (Pl.dual t i).toNat = j0 := by
  have h1 := h.turn i hi j0 hj0 0 (by omega)
  have h2 := h.dual i hi
  rw [hr 0 (by omega), if_pos rfl, h.right _ (by omega) _ hj0] at h1
  unfold dl at h1
  split at h1
  ·omega
  ·omega
 refine row_one (A := fun m j => e3 t i m j) (fun m hm j hj => (h.cube.inM hi hm hj).1) (fun j hj l hl => ?_)
 have hb := h.brack i hi j0 hj0 j hj l hl
 have e1 : sumTo (brL t i j0 j l) t.length = if j = l then 1 else 0 := by
  have : sumTo (brL t i j0 j l) t.length = sumTo (fun m => (if m = 0 then 1 else 0) * e3 t m j l) t.length := xs_ fun m hm => by
   unfold brL
   rw [hr m hm]
  rw [this, VQ_ (f := fun m => e3 t m j l) (show 0 < t.length by omega), Int.one_mul, h.left j hj l hl]
  unfold dl
  by_cases e : j = l
  ·rw [if_pos e, if_pos (by rw [e])]
  ·rw [if_neg e, if_neg (by omega)]
 rw [← e1, hb]
 refine xs_ fun m hm => ?_
 unfold brR
 rw [h.turn i hi m hm j hj, hd]
end Go.Pl
namespace Go.Pl
open Go.Aw
theorem aq6 {F : Nat → Nat → Int} {n m : Nat} : sumTo (fun x => F (x / m) (x % m)) (n * m) = sumTo (fun i => sumTo (F i) m) n := by
 by_cases hm : m = 0
 ·subst hm
  rw [Nat.mul_zero]
  simp only [sumTo]
  exact sum_zero.symm
 have key : ∀ (k : Nat) (j : Nat), j ≤ m → sumTo (fun x => F (x / m) (x % m)) (k * m + j) = sumTo (fun x => F (x / m) (x % m)) (k * m) + sumTo (F k) j := by
  intro k j
  induction j with
  | zero => intro _; simp [sumTo]
  | succ j ih =>
   intro hj
   rw [← Nat.add_assoc]
   simp only [sumTo]
   rw [ih (by omega)]
   have e1 : (k * m + j) / m = k := by rw [Nat.mul_comm, Nat.mul_add_div (by omega), Nat.div_eq_of_lt (by omega), Nat.add_zero]
   have e2 : (k * m + j) % m = j := by rw [Nat.mul_comm, Nat.mul_add_mod, Nat.mod_eq_of_lt (by omega)]
   rw [e1, e2, Int.add_assoc]
 induction n with
 | zero => simp [sumTo]
 | succ n ih =>
  rw [Nat.succ_mul, key n m (Nat.le_refl _), ih]
  rfl
theorem JO_ {f g : Nat → Int} {n m : Nat} : sumTo (fun x => f (x / m) * g (x % m)) (n * m) = sumTo f n * sumTo g m := by
 rw [aq6 (F := fun i j => f i * g j), ← sum_mul]
 exact xs_ fun i _ => mul_sum
theorem aX0 {n m x : Nat} (h : x < n * m) : x / m < n ∧ x % m < m := by
 have hm : 0 < m := by
  rcases Nat.eq_zero_or_pos m with e | e
  ·subst e; rw [Nat.mul_zero] at h; omega
  ·exact e
 exact ⟨by rw [Nat.div_lt_iff_lt_mul hm]; exact h, Nat.mod_lt _ hm⟩
def Kr (n m : Nat) (A A1 A2 : List (List Int)) : Prop := ∀ x, x < n * m → ∀ y, y < n * m → Cg (e2 A x y) (e2 A1 (x / m) (y / m) * e2 A2 (x % m) (y % m))
theorem Kr.mul {n m : Nat} {A A1 A2 B B1 B2 : List (List Int)} (ha : Kr n m A A1 A2) (hb : Kr n m B B1 B2) : Kr n m (wz_ A B (n * m)) (wz_ A1 B1 n) (wz_ A2 B2 m) := by
 intro x hx y hy
 obtain ⟨hx1, hx2⟩ := aX0 hx
 obtain ⟨hy1, hy2⟩ := aX0 hy
 unfold wz_
 rw [zN_ hx hy, zN_ hx1 hy1, zN_ hx2 hy2]
 refine (Cg.md _).trans (Eq.trans ?_ (Cg.mul (Cg.md _).symm (Cg.md _).symm))
 have e : Cg (sumTo (pG A B x y) (n * m)) (sumTo (fun k => pG A1 B1 (x / m) (y / m) (k / m) * pG A2 B2 (x % m) (y % m) (k % m)) (n * m)) := Cg.sum fun k hk => by
  refine (Cg.mul (ha x hx k hk) (hb k hk y hy)).trans (Cg.of ?_)
  unfold pG
  simp only [Int.mul_assoc, Int.mul_comm, Int.mul_left_comm]
 refine e.trans (Cg.of ?_)
 exact JO_
section
variable {s : List (List Int)} {t : List Int} {z : List (List Int)} {u : List Int}
end
end Go.Pl
namespace Go.Pl
open Go.Aw
section
variable {s : List (List Int)} {t : List Int} {z : List (List Int)} {u : List Int}
end
theorem Wf_ {n : Nat} {f : Nat → Nat → Nat → Int} {i j k : Nat} (hi : i < n) (hj : j < n) (hk : k < n) : e3 (UR_ n f) i j k = f i j k := by
 unfold e3
 rw [ao5 hi, xF_ hj, xE_ hk]
theorem RingP.zero {t : List (List (List Int))} (h : RingP t) {i j : Nat} (hi : i < t.length) (hj : j < t.length) : e3 t i j 0 = if j = (Pl.dual t i).toNat then 1 else 0 := by
 have h2 := h.dual i hi
 rw [h.turn i hi j hj 0 (by omega), h.right _ (by omega) _ hj]
 unfold dl
 by_cases e : j = (Pl.dual t i).toNat
 ·rw [if_pos e, if_pos (by rw [e])]
 ·rw [if_neg e, if_neg (by omega)]
section
variable {A B : List (List (List Int))}
def dP (A B : List (List (List Int))) (x : Nat) : Nat := (dual A (x / B.length)).toNat * B.length + (dual B (x % B.length)).toNat
end
end Go.Pl
namespace Go.Pl
open Go.Aw
structure Src where
 code : List Int
 pos : Nat
 h : Int
structure Src.Ok (s : Src) : Prop where
 len : s.code.length ≤ 1048576
 byte : ∀ i, i < s.code.length → 0 ≤ s.code.getD i 0 ∧ s.code.getD i 0 ≤ 255
 pos : s.pos ≤ s.code.length
 h : 0 ≤ s.h ∧ s.h < 18446744073709551616
def nxH (h : Int) : Int := (h * 6364136223846793005 % 18446744073709551616 + 1442695040888963407) % 18446744073709551616
def nxX (h : Int) : Int := bi6 .u64 (h.fdiv (2 ^ min 33 64)) 16777215
def nx (s : Src) (n : Int) : Int × Src :=
 if n < 1 then (0, s) else if s.pos < s.code.length then ((nxX (nxH s.h) + s.code.getD s.pos 0) % n, ⟨s.code, s.pos + 1, nxH s.h⟩) else (nxX (nxH s.h) % n, ⟨s.code, s.pos, nxH s.h⟩)
theorem aX1 (h : Int) : 0 ≤ nxH h ∧ nxH h < 18446744073709551616 := by
 unfold nxH
 omega
end Go.Pl
namespace Go.Pl
def gA : Int := 6364136223846793005
def gC : Int := 1442695040888963407
def aZ7 : Nat → Int
 | 0 => gA
 | k + 1 => aZ7 k * aZ7 k
def bj2 : Nat → Int
 | 0 => gC
 | k + 1 => (aZ7 k + 1) * bj2 k
def hop (k : Nat) (x : Int) : Int := aZ7 k * x + bj2 k
def adv : Nat → Int → Int
 | 0, h => h
 | n + 1, h => adv n (nxH h)
theorem JP_ (m : Nat) : ∀ (n : Nat) (h : Int), adv (n + m) h = adv m (adv n h)
 | 0, h => by rw [Nat.zero_add]; rfl
 | n + 1, h => by
  rw [show n + 1 + m = (n + m) + 1 by omega]
  exact JP_ m n (nxH h)
theorem aX2 {h : Int} (hh : 0 ≤ h ∧ h < 18446744073709551616) : ∀ n, 0 ≤ adv n h ∧ adv n h < 18446744073709551616 := by
 intro n
 induction n generalizing h with
 | zero => exact hh
 | succ n ih => exact ih (aX1 h)
end Go.Pl
namespace Go.Pl
open Go.Aw
abbrev Gf := Nat → Nat → Nat → Int
abbrev Cu := List (List (List Int))
def it {α : Type} (f : Nat → α → α) : Nat → α → α
 | 0, a => a
 | n + 1, a => f n (it f n a)
def ac0 (g : Gf) (i j k : Nat) (v : Int) : Gf := fun x y z => if x = i ∧ y = j ∧ z = k then v else g x y z
def aZ8 (g : Gf) (i j k : Nat) : Gf := ac0 g i j k (g i j k + 1)
def BdG (b : Int) (g : Gf) : Prop := ∀ x y z, 0 ≤ g x y z ∧ g x y z ≤ b
theorem BdG.upd {b : Int} {g : Gf} (h : BdG b g) (i j k : Nat) {v : Int} (h0 : 0 ≤ v) (h1 : v ≤ b) : BdG b (ac0 g i j k v) := by
 intro x y z
 unfold ac0
 split
 ·exact ⟨h0, h1⟩
 ·exact h x y z
theorem BdG.mono {b c : Int} {g : Gf} (h : BdG b g) (hc : b ≤ c) : BdG c g := fun x y z => ⟨(h x y z).1, Int.le_trans (h x y z).2 hc⟩
theorem BdG.inc {b : Int} {g : Gf} (h : BdG b g) (i j k : Nat) : BdG (b + 1) (aZ8 g i j k) :=
 (h.mono (by omega)).upd i j k (by have := h i j k; omega) (by have := h i j k; omega)
def zG : Gf := fun _ _ _ => 0
def bh6 (o : List Int) (n : Nat) : Gf := it (fun x g => it (fun y g => ac0 g x y (ad o x y) 1) n g) n zG
def cf5 (o : List Int) (more : Nat) : Cu := UR_ ((wQ_ o).toNat + more) (bh6 o (wQ_ o).toNat)
def dhZ (n x y : Nat) : Nat :=
 (if n ≤ x then (x % n + n - y % n) % n else (x % n + y % n) % n) + (if decide (n ≤ x) = decide (n ≤ y) then 0 else n)
def cf6 (n : Nat) : Cu := UR_ (2 * n) (it (fun x g => it (fun y g => ac0 g x y (dhZ n x y) 1) (2 * n) g) (2 * n) zG)
def aG9 (n h : Nat) : Nat := if n < 2 * h then n - h else h
def Tb_ (n h : Nat) : List Int :=
 if aG9 n h = 0 then [0, 1] else if 2 * aG9 n h = n then [2, 3] else [(((if n % 2 = 0 then 3 else 1) + aG9 n h : Nat) : Int)]
def QH_ (n : Nat) : Nat := if n % 2 = 0 then 4 else 2
def dhA (n h v a : Nat) (g : Gf) : Gf :=
 it (fun i g => aZ8 (aZ8 g a v ((if 2 ≤ a then Tb_ n (n / 2 - h) else Tb_ n h).getD i 0).toNat) v a ((if 2 ≤ a then Tb_ n (n / 2 - h) else Tb_ n h).getD i 0).toNat) (if 2 ≤ a then Tb_ n (n / 2 - h) else Tb_ n h).length g
def turn2 (n h k : Nat) : List Int := Tb_ n (h + k) ++ Tb_ n (max (h - k) (k - h))
def dhK (n h v k c : Nat) (g : Gf) : Gf := it (fun i g => aZ8 g v c ((turn2 n h k).getD i 0).toNat) (turn2 n h k).length g
def dhH (n h : Nat) (g : Gf) : Gf :=
 it (fun t g => dhK n h (QH_ n + h - 1) (t + 1) (QH_ n + t) g) ((n - 1) / 2) (it (fun a g => dhA n h (QH_ n + h - 1) a g) (QH_ n) g)
def cf7 (n : Nat) : List Int := if n % 2 = 0 then [2, 2] else [2]
def cf8 (n k : Nat) : Gf := it (fun t g => dhH n (t + 1) g) k (bh6 (cf7 n) (QH_ n))
def bj3 (n : Nat) : Nat := QH_ n + (n - 1) / 2
def cf9 (n : Nat) : Cu := UR_ (bj3 n) (cf8 n ((n - 1) / 2))
def nrG (o : List Int) (m k : Nat) : Gf := it (fun a g => ac0 (ac0 (ac0 g a m m 1) m a m 1) m m a 1) k (bh6 o m)
def aX3 (o : List Int) (k : Int) : Cu := UR_ ((wQ_ o).toNat + 1) (ac0 (nrG o (wQ_ o).toNat (wQ_ o).toNat) (wQ_ o).toNat (wQ_ o).toNat (wQ_ o).toNat k)
def spLo (a b : Nat) : Nat := max (a - b) (b - a)
def bj4 (l a b : Nat) : Nat := min (a + b) (2 * l - a - b)
def cg0 (l a b : Nat) : Nat := if spLo a b ≤ bj4 l a b then (bj4 l a b - spLo a b) / 2 + 1 else 0
def spC (l st i j c : Nat) (g : Gf) : Gf := it (fun t g => ac0 g i j ((spLo (i * st) (j * st) + 2 * t) / st) 1) c g
def spR (l st i c : Nat) (g : Gf) : Gf := it (fun j g => spC l st i j (cg0 l (i * st) (j * st)) g) c g
def spG (l st n c : Nat) : Gf := it (fun i g => spR l st i n g) c zG
def bj5 (l st : Nat) : Cu := UR_ (l / st + 1) (spG l st (l / st + 1) (l / st + 1))
def cg1 (a b : Cu) : Gf := fun x y z => e3 a (x / b.length) (y / b.length) (z / b.length) * e3 b (x % b.length) (y % b.length) (z % b.length)
def cg2 (a b : Cu) : Cu := UR_ (a.length * b.length) (cg1 a b)
theorem i0 : (0 : Int) ≤ 1 := by decide
theorem i1 : (1 : Int) ≤ 1 := by decide
end Go.Pl
namespace Go.Pl
open Go.Aw
structure Mv (j : Nat) (s s' : Src) : Prop where
 code : s'.code = s.code
 h : s'.h = adv j s.h
 pos : s'.pos = min (s.pos + j) s.code.length
theorem Mv.ok {j : Nat} {s s' : Src} (m : Mv j s s') (hs : s.Ok) : s'.Ok := by
 refine ⟨by rw [m.code]; exact hs.len, fun i hi => ?_, by rw [m.pos, m.code]; omega, by rw [m.h]; exact aX2 hs.h j⟩
 rw [m.code] at hi ⊢
 exact hs.byte i hi
theorem Mv.trans {j k : Nat} {s s' s'' : Src} (m : Mv j s s') (n : Mv k s' s'') : Mv (j + k) s s'' := by
 refine ⟨n.code.trans m.code, ?_, ?_⟩
 ·rw [n.h, m.h, JP_]
 ·rw [n.pos, m.pos, m.code]
  omega
def aX4 (most : Int) : Nat → List Int → Int → Src → List Int × Src
 | 0, o, _, s => (o, (nx s 2).2)
 | k + 1, o, z, s =>
  if (nx s 2).1 = 0 ∧ 2 * z ≤ most then
   aX4 most k (o ++ [2 + (nx (nx s 2).2 (most / z - 1)).1]) (z * (2 + (nx (nx s 2).2 (most / z - 1)).1)) (nx (nx s 2).2 (most / z - 1)).2
  else (o, (nx s 2).2)
def aH0 (s : Src) (most : Int) : List Int × Src := aX4 most 3 [1 + (nx s most).1] (1 + (nx s most).1) (nx s most).2
def pk5 (s : Src) : Int × Src := ([1, 2, 3, 4, (nx s 20).1].getD (nx (nx s 20).2 5).1.toNat 0, (nx (nx s 20).2 5).2)
def dhL (most : Nat) : Nat → Src → Nat × Src
 | 0, s => (0, s)
 | k + 1, s => if bj3 (1 + (nx s 9).1.toNat) ≤ most then (1 + (nx s 9).1.toNat, (nx s 9).2) else dhL most k (nx s 9).2
def tlD (s : Src) (most : Nat) : Cu × Src := (bj5 (nx s (2 * (most : Int))).1.toNat 2, (nx s (2 * (most : Int))).2)
def drS (s : Src) (most : Nat) (x : Int) : Cu × Src :=
 if x = 0 then (cf5 (aH0 s most).1 0, (aH0 s most).2)
 else if x = 1 ∧ 2 ≤ most then (cf6 (1 + (nx s (most / 2 : Nat)).1.toNat), (nx s (most / 2 : Nat)).2)
 else if x = 2 then (if (dhL most 8 s).1 = 0 then tlD (dhL most 8 s).2 most else (cf9 (dhL most 8 s).1, (dhL most 8 s).2))
 else if x = 3 ∧ 2 ≤ most then (aX3 (aH0 s (most - 1 : Nat)).1 0, (aH0 s (most - 1 : Nat)).2)
 else if x = 4 ∧ 2 ≤ most then (aX3 (aH0 s (most - 1 : Nat)).1 (pk5 (aH0 s (most - 1 : Nat)).2).1, (pk5 (aH0 s (most - 1 : Nat)).2).2)
 else if x = 5 then (bj5 (nx s most).1.toNat 1, (nx s most).2)
 else tlD s most
def drw : Nat → Src → Nat → Option (Cu × Src)
 | 0, _, _ => none
 | f + 1, s, most =>
  if (nx s 8).1 = 6 ∧ 4 ≤ most then
   (drw f (nx s 8).2 (most / 2)).bind fun a => (drw f a.2 (most / a.1.length)).map fun b => (cg2 a.1 b.1, b.2)
  else some (drS (nx s 8).2 most (nx s 8).1)
def Fin (s : Src) (most : Nat) (r : Cu × Src) : Prop := ∃ f, drw f s most = some r
end Go.Pl
namespace Go.Pl
open Go.Aw
def Sim (c : List Int) (s b : Src) : Prop := ∃ h, s = ⟨c, c.length, h⟩ ∧ b = ⟨[], 0, h⟩
def EndS (s : Src) : Prop := s.Ok ∧ s.pos = s.code.length
def At (d : Nat) (s : Src) : Prop := adv d s.h = 0
def Win (s : Src) : Prop := ∃ k, k < 25 ∧ s.h = adv k 0
def Res (d : Nat) (s : Src) : Prop := (∃ e, e < d ∧ At e s) ∨ Win s
theorem EndS.mv {j : Nat} {s s' : Src} (h : EndS s) (m : Mv j s s') : EndS s' := ⟨m.ok h.1, by rw [m.pos, m.code, h.2]; omega⟩
theorem Res.mono {d e : Nat} {s : Src} (h : Res d s) (hd : d ≤ e) : Res e s := by
 rcases h with ⟨a, h1, h2⟩ | h
 ·exact .inl ⟨a, by omega, h2⟩
 ·exact .inr h
end Go.Pl
namespace Go.Pl
open Go.Aw
section
variable {t : List (List (List Int))} {x y z : List Int}
end
end Go.Pl
