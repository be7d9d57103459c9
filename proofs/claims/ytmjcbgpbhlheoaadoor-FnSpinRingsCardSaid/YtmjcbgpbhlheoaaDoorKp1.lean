import Derived.Test.YtmjcbgpbhlheoaaDoorPl5
import Derived.Test.YtmjcbgpbhlheoaaDoorPl1
import Derived.Test.YtmjcbgpbhlheoaaDoorLib3
import Derived.Test.YtmjcbgpbhlheoaaDoorPl6
set_option linter.unusedSimpArgs false
set_option linter.unusedVariables false
namespace Go.Pl
open Go.Aw
def fmm (a b : Nat) : Nat := a * b % 55441
theorem fmm_one (x m : Nat) : fmm (x ^ m % 55441) x = x ^ (m + 1) % 55441 := by unfold fmm; rw [Nat.pow_succ, Nat.mul_mod, Nat.mod_mod, ← Nat.mul_mod]
def PW (x m a : Nat) : Prop := a = x ^ m % 55441
theorem PW.inc {x m a : Nat} (h : PW x m a) : PW x (m + 1) (fmm a x) := by
 unfold PW at h ⊢
 subst h
 exact fmm_one x m
def Cg (a b : Int) : Prop := a % 55441 = b % 55441
theorem Cg.mul {a a' b b' : Int} (h1 : Cg a a') (h2 : Cg b b') : Cg (a * b) (a' * b') := cgm h1 h2
theorem Cg.sum {f g : Nat → Int} {n : Nat} (h : ∀ i, i < n → Cg (f i) (g i)) : Cg (sumTo f n) (sumTo g n) := sum_cg h
theorem Cg.of {a b : Int} (h : a = b) : Cg a b := by rw [h]; rfl
theorem Cg.md (a : Int) : Cg (a % 55441) a := emd a
theorem sum_add {f g : Nat → Int} {n : Nat} : sumTo (fun i => f i + g i) n = sumTo f n + sumTo g n := by
 induction n with
 | zero => rfl
 | succ n ih => simp only [sumTo]; rw [ih]; omega
theorem sum_zero {n : Nat} : sumTo (fun _ => 0) n = 0 := by
 induction n with
 | zero => rfl
 | succ n ih => simp only [sumTo]; rw [ih]; rfl
theorem sum_comm {f : Nat → Nat → Int} {m n : Nat} : sumTo (fun i => sumTo (fun j => f i j) m) n = sumTo (fun j => sumTo (fun i => f i j) n) m := by
 induction n with
 | zero => simp only [sumTo]; exact sum_zero.symm
 | succ n ih => simp only [sumTo]; rw [ih, ← sum_add]
theorem mul_sum {f : Nat → Int} {c : Int} {n : Nat} : sumTo (fun i => c * f i) n = c * sumTo f n := by
 rw [Int.mul_comm, ← sum_mul]
 exact sum_congr fun i _ => Int.mul_comm _ _
theorem Cg.eq {a b : Int} (ha : InP a) (hb : InP b) (h : Cg a b) : a = b := by
 rw [← md_InP ha, ← md_InP hb]
 exact h
section
variable {s : List (List Int)} {t : List Int}
end
end Go.Pl
namespace Go.Pl
open Go.Aw
theorem orE_none {α : Type} {a b : Option α} (h : orE a b = none) : a = none ∧ b = none := by
 cases a with
 | none => exact ⟨rfl, h⟩
 | some x => cases h
structure RingP (t : List (List (List Int))) : Prop where
 cube : Cube t
 left : ∀ i, i < t.length → ∀ k, k < t.length → e3 t 0 i k = dl i k
 right : ∀ i, i < t.length → ∀ k, k < t.length → e3 t i 0 k = dl i k
 dual : ∀ i, i < t.length → 0 ≤ dual t i ∧ dual t i < t.length
 invo : ∀ i, i < t.length → Pl.dual t (Pl.dual t i).toNat = i
 turn : ∀ i, i < t.length → ∀ j, j < t.length → ∀ k, k < t.length → e3 t i j k = e3 t (Pl.dual t i).toNat k j
 turn2 : ∀ i, i < t.length → ∀ j, j < t.length → ∀ k, k < t.length → e3 t i j k = e3 t k (Pl.dual t j).toNat i
 brack : ∀ i, i < t.length → ∀ j, j < t.length → ∀ k, k < t.length → ∀ l, l < t.length → sumTo (brL t i j k l) t.length = sumTo (brR t i j k l) t.length
theorem isRing_P {t : List (List (List Int))} (h : isRing t = true) : RingP t := by
 obtain ⟨hc, hf⟩ := isRing_true h
 unfold faultF at hf
 obtain ⟨h1, hf⟩ := orE_none hf
 obtain ⟨h2, hf⟩ := orE_none hf
 obtain ⟨h3, h4⟩ := orE_none hf
 have g1 : ∀ i, i < t.length → ∀ k, k < t.length → e3 t 0 i k = dl i k ∧ e3 t i 0 k = dl i k := fun i hi k hk => by
  have := first_none_iff.1 (first_none_iff.1 h1 i hi) k hk
  unfold unitG at this
  split at this
  ·cases this
  ·rename_i hh
   simp only [ne_eq, not_or, Decidable.not_not] at hh
   exact hh
 have g2 : ∀ i, i < t.length → 0 ≤ Pl.dual t i ∧ Pl.dual t (Pl.dual t i).toNat = i := fun i hi => by
  have := first_none_iff.1 h2 i hi
  unfold dualH at this
  split at this
  ·cases this
  ·rename_i hh
   simp only [ne_eq, not_or, Decidable.not_not] at hh
   omega
 have g3 : ∀ i, i < t.length → ∀ j, j < t.length → ∀ k, k < t.length → e3 t i j k = e3 t (Pl.dual t i).toNat k j ∧ e3 t i j k = e3 t k (Pl.dual t j).toNat i := fun i hi j hj k hk => by
  have := first_none_iff.1 (first_none_iff.1 (first_none_iff.1 h3 i hi) j hj) k hk
  unfold turnG at this
  split at this
  ·cases this
  ·rename_i hh
   simp only [ne_eq, not_or, Decidable.not_not] at hh
   exact hh
 refine ⟨hc, fun i hi k hk => (g1 i hi k hk).1, fun i hi k hk => (g1 i hi k hk).2, fun i hi => ?_, fun i hi => ?_, fun i hi j hj k hk => (g3 i hi j hj k hk).1, fun i hi j hj k hk => (g3 i hi j hj k hk).2, fun i hi j hj k hk l hl => ?_⟩
 ·have h := (g2 i hi).1
  have hr := dualG_range (g := fun j => e3 t i j 0) (n := t.length) (List.range t.length) (-1) (fun j hj => by simpa using hj) (by omega) (by omega)
  exact ⟨h, hr.2⟩
 ·exact (g2 i hi).2
 ·have := first_none_iff.1 (first_none_iff.1 (first_none_iff.1 (first_none_iff.1 h4 i hi) j hj) k hk) l hl
  unfold brackG at this
  split at this
  ·cases this
  ·rename_i hh
   exact Decidable.not_not.1 hh
theorem RingP.faults {t : List (List (List Int))} (h : RingP t) : isRing t = true := by
 refine bd_true ⟨h.cube, ?_⟩
 have h1 : unitF t = none := first_none fun i hi => first_none fun k hk => by
  unfold unitG
  rw [if_neg]
  rintro (e | e)
  ·exact e (h.left i hi k hk)
  ·exact e (h.right i hi k hk)
 have h2 : dualF t = none := first_none fun i hi => by
  unfold dualH
  rw [if_neg]
  have := (h.dual i hi).1
  have h3 := h.invo i hi
  rintro (e | e)
  ·omega
  ·exact e h3
 have h3 : turnF t = none := first_none fun i hi => first_none fun j hj => first_none fun k hk => by
  unfold turnG
  rw [if_neg]
  rintro (e | e)
  ·exact e (h.turn i hi j hj k hk)
  ·exact e (h.turn2 i hi j hj k hk)
 have h4 : brackF t = none := first_none fun i hi => first_none fun j hj => first_none fun k hk => first_none fun l hl => by
  unfold brackG
  rw [if_neg]
  exact fun e => e (h.brack i hi j hj k hk l hl)
 unfold faultF
 rw [h1, h2, h3, h4]
 rfl
theorem sum_le_sum {f g : Nat → Int} : ∀ {n : Nat}, (∀ i, i < n → f i ≤ g i) → sumTo f n ≤ sumTo g n
 | 0, _ => Int.le_refl _
 | n + 1, h => by
  have h1 := sum_le_sum (n := n) (fun i hi => h i (by omega))
  have h2 := h n (by omega)
  simp only [sumTo]
  omega
theorem term_le {f : Nat → Int} {n i : Nat} (h : ∀ i, i < n → 0 ≤ f i) (hi : i < n) : f i ≤ sumTo f n := by
 have h1 := sum_le_sum (f := fun k => if k = i then f k else 0) (g := f) (n := n) (fun k hk => by
  by_cases e : k = i
  ·rw [if_pos e]; exact Int.le_refl _
  ·rw [if_neg e]; exact h k hk)
 rw [sum_one hi] at h1
 exact h1
end Go.Pl
namespace Go.Pl
open Go.Aw
theorem sum_prod {F : Nat → Nat → Int} {n m : Nat} : sumTo (fun x => F (x / m) (x % m)) (n * m) = sumTo (fun i => sumTo (F i) m) n := by
 by_cases hm : m = 0
 ·subst hm
  rw [Nat.mul_zero]
  simp only [sumTo]
  exact sum_zero.symm
 have key : ∀ (k : Nat) (j : Nat), j ≤ m → sumTo (fun x => F (x / m) (x % m)) (k * m + j) = sumTo (fun x => F (x / m) (x % m)) (k * m) + sumTo (F k) j := by
  intro k j
  induction j with
  | zero => intro _; simp [sumTo]
  | succ j ih =>
   intro hj
   rw [← Nat.add_assoc]
   simp only [sumTo]
   rw [ih (by omega)]
   have e1 : (k * m + j) / m = k := by rw [Nat.mul_comm, Nat.mul_add_div (by omega), Nat.div_eq_of_lt (by omega), Nat.add_zero]
   have e2 : (k * m + j) % m = j := by rw [Nat.mul_comm, Nat.mul_add_mod, Nat.mod_eq_of_lt (by omega)]
   rw [e1, e2, Int.add_assoc]
 induction n with
 | zero => simp [sumTo]
 | succ n ih =>
  rw [Nat.succ_mul, key n m (Nat.le_refl _), ih]
  rfl
theorem sum_prod2 {f g : Nat → Int} {n m : Nat} : sumTo (fun x => f (x / m) * g (x % m)) (n * m) = sumTo f n * sumTo g m := by
 rw [sum_prod (F := fun i j => f i * g j), ← sum_mul]
 exact sum_congr fun i _ => mul_sum
theorem dm_lt {n m x : Nat} (h : x < n * m) : x / m < n ∧ x % m < m := by
 have hm : 0 < m := by
  rcases Nat.eq_zero_or_pos m with e | e
  ·subst e; rw [Nat.mul_zero] at h; omega
  ·exact e
 exact ⟨by rw [Nat.div_lt_iff_lt_mul hm]; exact h, Nat.mod_lt _ hm⟩
theorem pair_lt {n m i j : Nat} (hi : i < n) (hj : j < m) : i * m + j < n * m := by
 have : (i + 1) * m ≤ n * m := Nat.mul_le_mul_right m hi
 rw [Nat.succ_mul] at this
 omega
theorem pair_div {m i j : Nat} (hj : j < m) : (i * m + j) / m = i := by rw [Nat.mul_comm, Nat.mul_add_div (by omega), Nat.div_eq_of_lt hj, Nat.add_zero]
theorem pair_mod {m i j : Nat} (hj : j < m) : (i * m + j) % m = j := by rw [Nat.mul_comm, Nat.mul_add_mod, Nat.mod_eq_of_lt hj]
theorem pair_dm (x m : Nat) : x / m * m + x % m = x := by rw [Nat.mul_comm]; exact Nat.div_add_mod x m
theorem pair_eq {m x y : Nat} : x = y ↔ x / m = y / m ∧ x % m = y % m := by
 constructor
 ·rintro rfl; exact ⟨rfl, rfl⟩
 ·rintro ⟨h1, h2⟩
  rw [← pair_dm x m, ← pair_dm y m, h1, h2]
def Kr (n m : Nat) (A A1 A2 : List (List Int)) : Prop := ∀ x, x < n * m → ∀ y, y < n * m → Cg (e2 A x y) (e2 A1 (x / m) (y / m) * e2 A2 (x % m) (y % m))
theorem Kr.mul {n m : Nat} {A A1 A2 B B1 B2 : List (List Int)} (ha : Kr n m A A1 A2) (hb : Kr n m B B1 B2) : Kr n m (mulM A B (n * m)) (mulM A1 B1 n) (mulM A2 B2 m) := by
 intro x hx y hy
 obtain ⟨hx1, hx2⟩ := dm_lt hx
 obtain ⟨hy1, hy2⟩ := dm_lt hy
 unfold mulM
 rw [matF_e2 hx hy, matF_e2 hx1 hy1, matF_e2 hx2 hy2]
 refine (Cg.md _).trans (Eq.trans ?_ (Cg.mul (Cg.md _).symm (Cg.md _).symm))
 have e : Cg (sumTo (pG A B x y) (n * m)) (sumTo (fun k => pG A1 B1 (x / m) (y / m) (k / m) * pG A2 B2 (x % m) (y % m) (k % m)) (n * m)) := Cg.sum fun k hk => by
  refine (Cg.mul (ha x hx k hk) (hb k hk y hy)).trans (Cg.of ?_)
  unfold pG
  simp only [Int.mul_assoc, Int.mul_comm, Int.mul_left_comm]
 refine e.trans (Cg.of ?_)
 exact sum_prod2
section
variable {s : List (List Int)} {t : List Int} {z : List (List Int)} {u : List Int}
end
end Go.Pl
namespace Go.Pl
open Go.Aw
section
variable {s : List (List Int)} {t : List Int} {z : List (List Int)} {u : List Int}
end
theorem cubF_e3 {n : Nat} {f : Nat → Nat → Nat → Int} {i j k : Nat} (hi : i < n) (hj : j < n) (hk : k < n) : e3 (cubF n f) i j k = f i j k := by
 unfold e3
 rw [cubF_get hi, matF_get hj, rowF_get hk]
def krR (A B : List (List (List Int))) (n m : Nat) : List (List (List Int)) := cubF (n * m) fun x y w => e3 A (x / m) (y / m) (w / m) * e3 B (x % m) (y % m) (w % m)
theorem dualG_skip {g : Nat → Int} : ∀ (l : List Nat) (out : Int), (∀ j ∈ l, g j = 0) → dualG g l out = out
 | [], _, _ => rfl
 | j :: l, out, h => by
  simp only [dualG]
  rw [if_pos (h j (by simp))]
  exact dualG_skip l out (fun k hk => h k (by simp [hk]))
theorem dualG_one {g : Nat → Int} {j0 : Nat} (h1 : g j0 = 1) : ∀ (l : List Nat), l.Nodup → j0 ∈ l → (∀ j ∈ l, j ≠ j0 → g j = 0) → dualG g l (-1) = j0
 | [], _, h, _ => by simp at h
 | j :: l, hn, hm, h0 => by
  simp only [dualG]
  rw [List.nodup_cons] at hn
  by_cases hj : j = j0
  ·subst hj
   rw [if_neg (by rw [h1]; decide), if_pos ⟨by decide, h1⟩]
   exact dualG_skip l j (fun k hk => h0 k (by simp [hk]) (fun e => hn.1 (e ▸ hk)))
  ·rw [if_pos (h0 j (by simp) hj)]
   refine dualG_one h1 l hn.2 ?_ (fun k hk => h0 k (by simp [hk]))
   rcases List.mem_cons.1 hm with e | e
   ·exact absurd e.symm hj
   ·exact e
theorem dual_uniq {t : List (List (List Int))} {i j : Nat} (hj : j < t.length) (h1 : e3 t i j 0 = 1) (h0 : ∀ k, k < t.length → k ≠ j → e3 t i k 0 = 0) : dual t i = j :=
 dualG_one (g := fun j => e3 t i j 0) h1 _ List.nodup_range (by simpa using hj) (fun k hk hne => h0 k (by simpa using hk) hne)
theorem RingP.zero {t : List (List (List Int))} (h : RingP t) {i j : Nat} (hi : i < t.length) (hj : j < t.length) : e3 t i j 0 = if j = (Pl.dual t i).toNat then 1 else 0 := by
 have h2 := h.dual i hi
 rw [h.turn i hi j hj 0 (by omega), h.right _ (by omega) _ hj]
 unfold dl
 by_cases e : j = (Pl.dual t i).toNat
 ·rw [if_pos e, if_pos (by rw [e])]
 ·rw [if_neg e, if_neg (by omega)]
theorem dl_mul {m x y : Nat} : dl (x / m) (y / m) * dl (x % m) (y % m) = dl x y := by
 unfold dl
 by_cases e : x = y
 ·subst e; rw [if_pos rfl, if_pos rfl, if_pos rfl]; rfl
 ·rw [if_neg (show ¬ (x : Int) = y by omega)]
  by_cases e1 : x / m = y / m
  ·have e2' : ¬ x % m = y % m := fun e2' => e (pair_eq (m := m).2 ⟨e1, e2'⟩)
   rw [if_neg (show ¬ ((x % m : Nat) : Int) = (y % m : Nat) by omega), Int.mul_zero]
  ·rw [if_neg (show ¬ ((x / m : Nat) : Int) = (y / m : Nat) by omega), Int.zero_mul]
section
variable {A B : List (List (List Int))}
theorem krR_length {n m : Nat} : (krR A B n m).length = n * m := cubF_length ..
theorem krR_e3 {n m x y w : Nat} (hx : x < n * m) (hy : y < n * m) (hw : w < n * m) : e3 (krR A B n m) x y w = e3 A (x / m) (y / m) (w / m) * e3 B (x % m) (y % m) (w % m) := cubF_e3 hx hy hw
def dP (A B : List (List (List Int))) (x : Nat) : Nat := (dual A (x / B.length)).toNat * B.length + (dual B (x % B.length)).toNat
theorem krR_dual (hA : RingP A) (hB : RingP B) {x : Nat} (hx : x < A.length * B.length) : dual (krR A B A.length B.length) x = dP A B x ∧ dP A B x < A.length * B.length ∧ dP A B x / B.length = (dual A (x / B.length)).toNat ∧ dP A B x % B.length = (dual B (x % B.length)).toNat := by
 obtain ⟨hx1, hx2⟩ := dm_lt hx
 have d1 := hA.dual _ hx1
 have d2 := hB.dual _ hx2
 have hd : dP A B x < A.length * B.length := pair_lt (by omega) (by omega)
 have q1 : dP A B x / B.length = (dual A (x / B.length)).toNat := pair_div (by omega)
 have q2 : dP A B x % B.length = (dual B (x % B.length)).toNat := pair_mod (by omega)
 have hp : 0 < A.length * B.length := by omega
 have val : ∀ k, k < A.length * B.length → e3 (krR A B A.length B.length) x k 0 = if k = dP A B x then 1 else 0 := fun k hk => by
  obtain ⟨hk1, hk2⟩ := dm_lt hk
  rw [krR_e3 hx hk hp, Nat.zero_div, Nat.zero_mod, hA.zero hx1 hk1, hB.zero hx2 hk2]
  by_cases e : k = dP A B x
  ·subst e
   rw [if_pos q1, if_pos q2, if_pos rfl]; rfl
  ·rw [if_neg e]
   by_cases e1 : k / B.length = (dual A (x / B.length)).toNat
   ·have e2' : ¬ k % B.length = (dual B (x % B.length)).toNat := fun e2' => e (pair_eq (m := B.length).2 ⟨by rw [e1, q1], by rw [e2', q2]⟩)
    rw [if_neg e2', Int.mul_zero]
   ·rw [if_neg e1, Int.zero_mul]
 refine ⟨dual_uniq (by rw [krR_length]; exact hd) (by rw [val _ hd, if_pos rfl]) (fun k hk hne => ?_), hd, q1, q2⟩
 rw [krR_length] at hk
 rw [val k hk, if_neg hne]
theorem RingP.prod (hA : RingP A) (hB : RingP B) (hc : Cube (krR A B A.length B.length)) : RingP (krR A B A.length B.length) := by
 have hp : 0 < A.length * B.length := by have := hc.1; rw [krR_length] at this; exact this
 refine ⟨hc, fun i hi k hk => ?_, fun i hi k hk => ?_, fun i hi => ?_, fun i hi => ?_, fun i hi j hj k hk => ?_, fun i hi j hj k hk => ?_, fun i hi j hj k hk l hl => ?_⟩
 all_goals rw [krR_length] at hi
 ·rw [krR_length] at hk
  obtain ⟨hi1, hi2⟩ := dm_lt hi
  obtain ⟨hk1, hk2⟩ := dm_lt hk
  rw [krR_e3 hp hi hk, Nat.zero_div, Nat.zero_mod, hA.left _ hi1 _ hk1, hB.left _ hi2 _ hk2, dl_mul]
 ·rw [krR_length] at hk
  obtain ⟨hi1, hi2⟩ := dm_lt hi
  obtain ⟨hk1, hk2⟩ := dm_lt hk
  rw [krR_e3 hi hp hk, Nat.zero_div, Nat.zero_mod, hA.right _ hi1 _ hk1, hB.right _ hi2 _ hk2, dl_mul]
 ·obtain ⟨e, h1, -, -⟩ := krR_dual hA hB hi
  rw [e, krR_length]; omega
 ·obtain ⟨e, h1, q1, q2⟩ := krR_dual hA hB hi
  obtain ⟨hi1, hi2⟩ := dm_lt hi
  obtain ⟨e', -, -, -⟩ := krR_dual hA hB h1
  rw [e, Int.toNat_natCast, e']
  unfold dP at q1 q2 ⊢
  rw [q1, q2, hA.invo _ hi1, hB.invo _ hi2, Int.toNat_natCast, Int.toNat_natCast, pair_dm]
 ·rw [krR_length] at hj hk
  obtain ⟨e, h1, q1, q2⟩ := krR_dual hA hB hi
  obtain ⟨hi1, hi2⟩ := dm_lt hi
  obtain ⟨hj1, hj2⟩ := dm_lt hj
  obtain ⟨hk1, hk2⟩ := dm_lt hk
  rw [e, Int.toNat_natCast, krR_e3 hi hj hk, krR_e3 h1 hk hj, q1, q2, ← hA.turn _ hi1 _ hj1 _ hk1, ← hB.turn _ hi2 _ hj2 _ hk2]
 ·rw [krR_length] at hj hk
  obtain ⟨e, h1, q1, q2⟩ := krR_dual hA hB hj
  obtain ⟨hi1, hi2⟩ := dm_lt hi
  obtain ⟨hj1, hj2⟩ := dm_lt hj
  obtain ⟨hk1, hk2⟩ := dm_lt hk
  rw [e, Int.toNat_natCast, krR_e3 hi hj hk, krR_e3 hk h1 hi, q1, q2, ← hA.turn2 _ hi1 _ hj1 _ hk1, ← hB.turn2 _ hi2 _ hj2 _ hk2]
 ·rw [krR_length] at hj hk hl ⊢
  obtain ⟨hi1, hi2⟩ := dm_lt hi
  obtain ⟨hj1, hj2⟩ := dm_lt hj
  obtain ⟨hk1, hk2⟩ := dm_lt hk
  obtain ⟨hl1, hl2⟩ := dm_lt hl
  have eL : sumTo (brL (krR A B A.length B.length) i j k l) (A.length * B.length) = sumTo (brL A (i / B.length) (j / B.length) (k / B.length) (l / B.length)) A.length * sumTo (brL B (i % B.length) (j % B.length) (k % B.length) (l % B.length)) B.length := by
   rw [← sum_prod2]
   refine sum_congr fun x hx => ?_
   unfold brL
   rw [krR_e3 hi hj hx, krR_e3 hx hk hl]
   simp only [Int.mul_assoc, Int.mul_comm, Int.mul_left_comm]
  have eR : sumTo (brR (krR A B A.length B.length) i j k l) (A.length * B.length) = sumTo (brR A (i / B.length) (j / B.length) (k / B.length) (l / B.length)) A.length * sumTo (brR B (i % B.length) (j % B.length) (k % B.length) (l % B.length)) B.length := by
   rw [← sum_prod2]
   refine sum_congr fun x hx => ?_
   unfold brR
   rw [krR_e3 hj hk hx, krR_e3 hi hx hl]
   simp only [Int.mul_assoc, Int.mul_comm, Int.mul_left_comm]
  rw [eL, eR, hA.brack _ hi1 _ hj1 _ hk1 _ hl1, hB.brack _ hi2 _ hj2 _ hk2 _ hl2]
end
end Go.Pl
namespace Go.Pl
open Go.Aw
structure Src where
 code : List Int
 pos : Nat
 h : Int
structure Src.Ok (s : Src) : Prop where
 len : s.code.length ≤ 1048576
 byte : ∀ i, i < s.code.length → 0 ≤ s.code.getD i 0 ∧ s.code.getD i 0 ≤ 255
 pos : s.pos ≤ s.code.length
 h : 0 ≤ s.h ∧ s.h < 18446744073709551616
def nxH (h : Int) : Int := (h * 6364136223846793005 % 18446744073709551616 + 1442695040888963407) % 18446744073709551616
def nxX (h : Int) : Int := andK .u64 (h.fdiv (2 ^ min 33 64)) 16777215
def nx (s : Src) (n : Int) : Int × Src :=
 if n < 1 then (0, s) else if s.pos < s.code.length then ((nxX (nxH s.h) + s.code.getD s.pos 0) % n, ⟨s.code, s.pos + 1, nxH s.h⟩) else (nxX (nxH s.h) % n, ⟨s.code, s.pos, nxH s.h⟩)
theorem nxX_bd (h : Int) : 0 ≤ nxX h ∧ nxX h ≤ 16777215 := by
 unfold nxX andK
 rw [wrap_u64]
 have h1 : (BitVec.ofInt (Go.IntKind.bits .u64) (h.fdiv (2 ^ min 33 64)) &&& BitVec.ofInt (Go.IntKind.bits .u64) 16777215).toNat ≤ (BitVec.ofInt (Go.IntKind.bits .u64) 16777215).toNat := by
  rw [BitVec.toNat_and]
  exact Nat.and_le_right
 have h2 : (BitVec.ofInt (Go.IntKind.bits .u64) 16777215).toNat = 16777215 := by decide
 rw [h2] at h1
 omega
theorem nxH_bd (h : Int) : 0 ≤ nxH h ∧ nxH h < 18446744073709551616 := by
 unfold nxH
 omega
theorem nx_ok {s : Src} (hs : s.Ok) (n : Int) : (nx s n).2.Ok := by
 unfold nx
 split
 ·exact hs
 ·split
  ·rename_i h
   exact ⟨hs.len, hs.byte, by show s.pos + 1 ≤ s.code.length; omega, nxH_bd _⟩
  ·exact ⟨hs.len, hs.byte, hs.pos, nxH_bd _⟩
theorem nx_bd (s : Src) {n : Int} (h : 1 ≤ n) : 0 ≤ (nx s n).1 ∧ (nx s n).1 < n := by
 unfold nx
 rw [if_neg (by omega)]
 split
 ·exact ⟨Int.emod_nonneg _ (by omega), Int.emod_lt_of_pos _ (by omega)⟩
 ·exact ⟨Int.emod_nonneg _ (by omega), Int.emod_lt_of_pos _ (by omega)⟩
def bsV (c : List Int) : List AV := c.map (AV.ik .u8)
theorem bsV_len {c : List Int} : (bsV c).length = c.length := by simp [bsV]
theorem bsV_get {c : List Int} {i : Nat} (h : i < c.length) : (bsV c).getD i .junk = .ik .u8 (c.getD i 0) := by simp [bsV, List.getD, h]
theorem killAs_bsV {q : Nat → List Nat → Bool} : ∀ {c : List Int}, killAs q (bsV c) = bsV c
 | [] => rfl
 | b :: c => by
  show killA q (.ik .u8 b) :: killAs q (bsV c) = .ik .u8 b :: bsV c
  rw [killAs_bsV]
  rfl
theorem areData_bsV : ∀ {c : List Int}, areData (bsV c) = true
 | [] => rfl
 | b :: c => by
  show (Aw.isData (.ik .u8 b) && areData (bsV c)) = true
  rw [areData_bsV]
  rfl
end Go.Pl
namespace Go.Pl
def gA : Int := 6364136223846793005
def gC : Int := 1442695040888963407
def linA : Nat → Int
 | 0 => gA
 | k + 1 => linA k * linA k
def linC : Nat → Int
 | 0 => gC
 | k + 1 => (linA k + 1) * linC k
def hop (k : Nat) (x : Int) : Int := linA k * x + linC k
def adv : Nat → Int → Int
 | 0, h => h
 | n + 1, h => adv n (nxH h)
theorem adv_add (m : Nat) : ∀ (n : Nat) (h : Int), adv (n + m) h = adv m (adv n h)
 | 0, h => by rw [Nat.zero_add]; rfl
 | n + 1, h => by
  rw [show n + 1 + m = (n + m) + 1 by omega]
  exact adv_add m n (nxH h)
theorem adv_bd {h : Int} (hh : 0 ≤ h ∧ h < 18446744073709551616) : ∀ n, 0 ≤ adv n h ∧ adv n h < 18446744073709551616 := by
 intro n
 induction n generalizing h with
 | zero => exact hh
 | succ n ih => exact ih (nxH_bd h)
theorem linA_mod : ∀ k, ∃ u, linA k = 1 + 2 ^ (k + 2) * u
 | 0 => ⟨1591034055961698251, by decide⟩
 | k + 1 => by
  obtain ⟨u, hu⟩ := linA_mod k
  refine ⟨u + 2 ^ (k + 1) * u * u, ?_⟩
  have e1 : (2 : Int) ^ (k + 1 + 2) = 2 * 2 ^ (k + 2) := by rw [show k + 1 + 2 = (k + 2) + 1 by omega, Int.pow_succ]; omega
  have e2 : (2 : Int) ^ (k + 2) = 2 * 2 ^ (k + 1) := by rw [show k + 2 = (k + 1) + 1 by omega, Int.pow_succ]; omega
  show linA k * linA k = _
  rw [hu, e1]
  generalize (2 : Int) ^ (k + 2) = p at *
  generalize (2 : Int) ^ (k + 1) = q at *
  subst e2
  grind
theorem linC_mod : ∀ k, ∃ v, linC k = 2 ^ k * (1 + 2 * v)
 | 0 => ⟨721347520444481703, by decide⟩
 | k + 1 => by
  obtain ⟨u, hu⟩ := linA_mod k
  obtain ⟨v, hv⟩ := linC_mod k
  refine ⟨v + 2 ^ k * u * (1 + 2 * v), ?_⟩
  have e1 : (2 : Int) ^ (k + 2) = 4 * 2 ^ k := by rw [show k + 2 = (k + 1) + 1 by omega, Int.pow_succ, Int.pow_succ]; omega
  have e2 : (2 : Int) ^ (k + 1) = 2 * 2 ^ k := by rw [Int.pow_succ]; omega
  show (linA k + 1) * linC k = _
  rw [hu, hv, e1, e2]
  generalize (2 : Int) ^ k = p
  grind
theorem hop_mod (k : Nat) (x : Int) : ∃ w, hop k x = x + 2 ^ k + 2 ^ (k + 1) * w := by
 obtain ⟨u, hu⟩ := linA_mod k
 obtain ⟨v, hv⟩ := linC_mod k
 refine ⟨2 * u * x + v, ?_⟩
 have e1 : (2 : Int) ^ (k + 2) = 4 * 2 ^ k := by rw [show k + 2 = (k + 1) + 1 by omega, Int.pow_succ, Int.pow_succ]; omega
 have e2 : (2 : Int) ^ (k + 1) = 2 * 2 ^ k := by rw [Int.pow_succ]; omega
 unfold hop
 rw [hu, hv, e1, e2]
 generalize (2 : Int) ^ k = p
 grind
def cong (m : Int) (x y : Int) : Prop := ∃ w, x = y + m * w
theorem cong_trans {m x y z : Int} (h : cong m x y) (g : cong m y z) : cong m x z := by
 obtain ⟨w, e⟩ := h
 obtain ⟨v, e'⟩ := g
 exact ⟨w + v, by subst e e'; grind⟩
def M64 : Int := 18446744073709551616
theorem nxH_cong (h : Int) : cong M64 (nxH h) (gA * h + gC) := by
 unfold nxH cong M64 gA gC
 have h1 := Int.emod_add_mul_ediv (h * 6364136223846793005) 18446744073709551616
 have h2 := Int.emod_add_mul_ediv (h * 6364136223846793005 % 18446744073709551616 + 1442695040888963407) 18446744073709551616
 generalize h * 6364136223846793005 % 18446744073709551616 = a at *
 generalize h * 6364136223846793005 / 18446744073709551616 = b at *
 generalize (a + 1442695040888963407) % 18446744073709551616 = c at *
 generalize (a + 1442695040888963407) / 18446744073709551616 = d at *
 exact ⟨-b - d, by omega⟩
theorem lin_cong {m a c x y : Int} (h : cong m x y) : cong m (a * x + c) (a * y + c) := by
 obtain ⟨w, e⟩ := h
 exact ⟨a * w, by subst e; grind⟩
theorem adv_hop (k : Nat) : ∀ x, cong M64 (adv (2 ^ k) x) (hop k x) := by
 induction k with
 | zero =>
  intro x
  exact nxH_cong x
 | succ k ih =>
  intro x
  rw [show 2 ^ (k + 1) = 2 ^ k + 2 ^ k by rw [Nat.pow_succ]; omega, adv_add]
  refine cong_trans (ih _) ?_
  have e : hop (k + 1) x = hop k (hop k x) := by
   show linA k * linA k * x + (linA k + 1) * linC k = linA k * (linA k * x + linC k) + linC k
   grind
  rw [e]
  exact lin_cong (ih x)
theorem M64_eq : M64 = 2 ^ 64 := by decide
theorem cong_down {k : Nat} (hk : k ≤ 64) {x y : Int} (h : cong M64 x y) : cong (2 ^ k) x y := by
 obtain ⟨w, e⟩ := h
 refine ⟨2 ^ (64 - k) * w, ?_⟩
 rw [e, M64_eq, ← Int.mul_assoc, ← Int.pow_add, show k + (64 - k) = 64 by omega]
theorem reach_mod (x y : Int) : ∀ k, k ≤ 64 → ∃ n, cong (2 ^ k) (adv n x) y := by
 intro k
 induction k with
 | zero => intro _; exact ⟨0, x - y, by show x = _; grind⟩
 | succ k ih =>
  intro hk
  obtain ⟨n, w, e⟩ := ih (by omega)
  have e2 : (2 : Int) ^ (k + 1) = 2 * 2 ^ k := by rw [Int.pow_succ]; omega
  rcases (show w % 2 = 0 ∨ w % 2 = 1 by omega) with h | h
  ·refine ⟨n, w / 2, ?_⟩
   have : w = 2 * (w / 2) := by omega
   rw [e, e2]
   generalize w / 2 = v at *
   subst this
   grind
  ·refine ⟨n + 2 ^ k, ?_⟩
   rw [adv_add]
   refine cong_trans (cong_down hk (adv_hop k _)) ?_
   obtain ⟨v, ev⟩ := hop_mod k (adv n x)
   have : w = 1 + 2 * (w / 2) := by omega
   refine ⟨v + w / 2 + 1, ?_⟩
   rw [ev, e, e2]
   generalize w / 2 = u at *
   subst this
   grind
theorem reach {x y : Int} (hx : 0 ≤ x ∧ x < M64) (hy : 0 ≤ y ∧ y < M64) : ∃ n, adv n x = y := by
 obtain ⟨n, w, e⟩ := reach_mod x y 64 (Nat.le_refl _)
 refine ⟨n, ?_⟩
 have hb := adv_bd hx n
 rw [← M64_eq] at e
 unfold M64 at *
 omega
end Go.Pl
namespace Go.Pl
open Go.Aw
abbrev Gf := Nat → Nat → Nat → Int
abbrev Cu := List (List (List Int))
def it {α : Type} (f : Nat → α → α) : Nat → α → α
 | 0, a => a
 | n + 1, a => f n (it f n a)
theorem it_inv {α : Type} {f : Nat → α → α} {P : Nat → α → Prop} {a : α} (h0 : P 0 a) : ∀ {n : Nat}, (∀ k, k < n → ∀ a, P k a → P (k + 1) (f k a)) → P n (it f n a)
 | 0, _ => h0
 | n + 1, h => h n (Nat.lt_succ_self n) _ (it_inv h0 (fun k hk => h k (Nat.lt_succ_of_lt hk)))
def updG (g : Gf) (i j k : Nat) (v : Int) : Gf := fun x y z => if x = i ∧ y = j ∧ z = k then v else g x y z
def incG (g : Gf) (i j k : Nat) : Gf := updG g i j k (g i j k + 1)
def BdG (b : Int) (g : Gf) : Prop := ∀ x y z, 0 ≤ g x y z ∧ g x y z ≤ b
theorem BdG.upd {b : Int} {g : Gf} (h : BdG b g) (i j k : Nat) {v : Int} (h0 : 0 ≤ v) (h1 : v ≤ b) : BdG b (updG g i j k v) := by
 intro x y z
 unfold updG
 split
 ·exact ⟨h0, h1⟩
 ·exact h x y z
theorem BdG.mono {b c : Int} {g : Gf} (h : BdG b g) (hc : b ≤ c) : BdG c g := fun x y z => ⟨(h x y z).1, Int.le_trans (h x y z).2 hc⟩
theorem BdG.inc {b : Int} {g : Gf} (h : BdG b g) (i j k : Nat) : BdG (b + 1) (incG g i j k) :=
 (h.mono (by omega)).upd i j k (by have := h i j k; omega) (by have := h i j k; omega)
theorem BdG.iter {b c : Int} {f : Nat → Gf → Gf} {n : Nat} {g : Gf} (h : BdG b g) (hf : ∀ k, k < n → ∀ b g, BdG b g → BdG (b + c) (f k g)) : BdG (b + n * c) (it f n g) := by
 have : BdG (b + (n : Nat) * c) (Pl.it f n g) := it_inv (P := fun k g => BdG (b + (k : Nat) * c) g) (by simpa using h) (fun k hk a ha => by
  have := hf k hk _ _ ha
  rw [show b + ((k + 1 : Nat) : Int) * c = b + (k : Nat) * c + c by rw [Int.natCast_succ]; grind]
  exact this)
 exact this
theorem BdG.iter1 {b : Int} {f : Nat → Gf → Gf} {n : Nat} {g : Gf} (h : BdG b g) (hf : ∀ k, k < n → ∀ g, BdG b g → BdG b (f k g)) : BdG b (it f n g) :=
 it_inv (P := fun _ g => BdG b g) h fun k hk a ha => hf k hk a ha
theorem cubF_upd {n : Nat} {g : Gf} {i j k : Nat} {v : Int} (hi : i < n) (hj : j < n) :
  (cubF n g).set i (((cubF n g).getD i []).set j ((((cubF n g).getD i []).getD j []).set k v)) = cubF n (updG g i j k v) := cubF_set hi hj
def zG : Gf := fun _ _ _ => 0
def grpG (o : List Int) (n : Nat) : Gf := it (fun x g => it (fun y g => updG g x y (ad o x y) 1) n g) n zG
def grpT (o : List Int) (more : Nat) : Cu := cubF ((prodO o).toNat + more) (grpG o (prodO o).toNat)
def dhZ (n x y : Nat) : Nat :=
 (if n ≤ x then (x % n + n - y % n) % n else (x % n + y % n) % n) + (if decide (n ≤ x) = decide (n ≤ y) then 0 else n)
def dhgT (n : Nat) : Cu := cubF (2 * n) (it (fun x g => it (fun y g => updG g x y (dhZ n x y) 1) (2 * n) g) (2 * n) zG)
def turnK (n h : Nat) : Nat := if n < 2 * h then n - h else h
def turnL (n h : Nat) : List Int :=
 if turnK n h = 0 then [0, 1] else if 2 * turnK n h = n then [2, 3] else [(((if n % 2 = 0 then 3 else 1) + turnK n h : Nat) : Int)]
def onesD (n : Nat) : Nat := if n % 2 = 0 then 4 else 2
def dhA (n h v a : Nat) (g : Gf) : Gf :=
 it (fun i g => incG (incG g a v ((if 2 ≤ a then turnL n (n / 2 - h) else turnL n h).getD i 0).toNat) v a ((if 2 ≤ a then turnL n (n / 2 - h) else turnL n h).getD i 0).toNat) (if 2 ≤ a then turnL n (n / 2 - h) else turnL n h).length g
def turn2 (n h k : Nat) : List Int := turnL n (h + k) ++ turnL n (max (h - k) (k - h))
def dhK (n h v k c : Nat) (g : Gf) : Gf := it (fun i g => incG g v c ((turn2 n h k).getD i 0).toNat) (turn2 n h k).length g
def dhH (n h : Nat) (g : Gf) : Gf :=
 it (fun t g => dhK n h (onesD n + h - 1) (t + 1) (onesD n + t) g) ((n - 1) / 2) (it (fun a g => dhA n h (onesD n + h - 1) a g) (onesD n) g)
def ordD (n : Nat) : List Int := if n % 2 = 0 then [2, 2] else [2]
def dhdG (n k : Nat) : Gf := it (fun t g => dhH n (t + 1) g) k (grpG (ordD n) (onesD n))
def dhdN (n : Nat) : Nat := onesD n + (n - 1) / 2
def dhdT (n : Nat) : Cu := cubF (dhdN n) (dhdG n ((n - 1) / 2))
def nrG (o : List Int) (m k : Nat) : Gf := it (fun a g => updG (updG (updG g a m m 1) m a m 1) m m a 1) k (grpG o m)
def nearT (o : List Int) (k : Int) : Cu := cubF ((prodO o).toNat + 1) (updG (nrG o (prodO o).toNat (prodO o).toNat) (prodO o).toNat (prodO o).toNat (prodO o).toNat k)
def spLo (a b : Nat) : Nat := max (a - b) (b - a)
def spHi (l a b : Nat) : Nat := min (a + b) (2 * l - a - b)
def spCn (l a b : Nat) : Nat := if spLo a b ≤ spHi l a b then (spHi l a b - spLo a b) / 2 + 1 else 0
def spC (l st i j c : Nat) (g : Gf) : Gf := it (fun t g => updG g i j ((spLo (i * st) (j * st) + 2 * t) / st) 1) c g
def spR (l st i c : Nat) (g : Gf) : Gf := it (fun j g => spC l st i j (spCn l (i * st) (j * st)) g) c g
def spG (l st n c : Nat) : Gf := it (fun i g => spR l st i n g) c zG
def spnT (l st : Nat) : Cu := cubF (l / st + 1) (spG l st (l / st + 1) (l / st + 1))
def prdG (a b : Cu) : Gf := fun x y z => e3 a (x / b.length) (y / b.length) (z / b.length) * e3 b (x % b.length) (y % b.length) (z % b.length)
def prdT (a b : Cu) : Cu := cubF (a.length * b.length) (prdG a b)
def Drw (m : Nat) (t : Cu) : Prop := 1 ≤ t.length ∧ t.length ≤ m ∧ ∃ g, t = cubF t.length g ∧ BdG ((t.length : Int) ^ 5) g
theorem drw_of {m n : Nat} {g : Gf} {b : Int} (h1 : 1 ≤ n) (h2 : n ≤ m) (hg : BdG b g) (hb : b ≤ (n : Int) ^ 5) : Drw m (cubF n g) := by
 unfold Drw
 rw [cubF_length]
 exact ⟨h1, h2, g, rfl, hg.mono hb⟩
theorem i0 : (0 : Int) ≤ 1 := by decide
theorem i1 : (1 : Int) ≤ 1 := by decide
theorem i19 : (1 : Int) ≤ 19 := by decide
theorem zG_bd : BdG 1 zG := fun _ _ _ => ⟨Int.le_refl 0, show (0 : Int) ≤ 1 by decide⟩
theorem grpG_bd {o : List Int} {n : Nat} : BdG 1 (grpG o n) :=
 zG_bd.iter1 fun x _ g hg => hg.iter1 fun y _ g hg => hg.upd _ _ _ i0 i1
theorem pow5_pos {n : Nat} (h : 1 ≤ n) : 1 ≤ (n : Int) ^ 5 := by
 have : 1 ^ 5 ≤ n ^ 5 := Nat.pow_le_pow_left h 5
 have e : ((n ^ 5 : Nat) : Int) = (n : Int) ^ 5 := by push_cast; rfl
 omega
theorem grpT_drw {o : List Int} (h : PosO o) {m : Nat} (hm : prodO o ≤ m) : Drw m (grpT o 0) := by
 have := prodO_pos h
 exact drw_of (by omega) (by omega) grpG_bd (pow5_pos (by omega))
theorem dhgT_drw {n m : Nat} (h1 : 1 ≤ n) (h : 2 * n ≤ m) : Drw m (dhgT n) :=
 drw_of (by omega) h (zG_bd.iter1 fun x _ g hg => hg.iter1 fun y _ g hg => hg.upd _ _ _ i0 i1) (pow5_pos (by omega))
theorem nearT_drw {o : List Int} (h : PosO o) {m : Nat} (hm : prodO o + 1 ≤ m) {k : Int} (h0 : 0 ≤ k) (h1 : k ≤ 19) : Drw m (nearT o k) := by
 have := prodO_pos h
 refine drw_of (b := 19) (by omega) (by omega) (BdG.upd ?_ _ _ _ h0 h1) ?_
 ·exact (grpG_bd.mono (by decide)).iter1 fun a _ g hg => ((hg.upd _ _ _ i0 i19).upd _ _ _ i0 i19).upd _ _ _ i0 i19
 ·have h2 : 2 ^ 5 ≤ ((prodO o).toNat + 1) ^ 5 := Nat.pow_le_pow_left (by omega) 5
  have e : ((((prodO o).toNat + 1) ^ 5 : Nat) : Int) = (((prodO o).toNat + 1 : Nat) : Int) ^ 5 := by push_cast; rfl
  omega
theorem spnT_drw {l st m : Nat} (h : l / st + 1 ≤ m) : Drw m (spnT l st) :=
 drw_of (Nat.succ_le_succ (Nat.zero_le _)) h (zG_bd.iter1 fun i _ g hg => hg.iter1 fun j _ g hg => hg.iter1 fun t _ g hg => hg.upd _ _ _ i0 i1) (pow5_pos (Nat.succ_le_succ (Nat.zero_le _)))
theorem turnL_len {n h : Nat} : (turnL n h).length ≤ 2 := by
 unfold turnL
 split
 ·exact Nat.le_refl 2
 ·split
  ·exact Nat.le_refl 2
  ·exact Nat.le_succ 1
theorem dhA_bd {n h v a : Nat} {b : Int} {g : Gf} (hg : BdG b g) : BdG (b + 4) (dhA n h v a g) := by
 have h1 : BdG (b + (if 2 ≤ a then turnL n (n / 2 - h) else turnL n h).length * 2) (dhA n h v a g) := BdG.iter hg fun k _ b g hg => by
  have := (hg.inc a v ((if 2 ≤ a then turnL n (n / 2 - h) else turnL n h).getD k 0).toNat).inc v a ((if 2 ≤ a then turnL n (n / 2 - h) else turnL n h).getD k 0).toNat
  rw [show b + 1 + 1 = b + 2 by omega] at this
  exact this
 refine h1.mono ?_
 split <;> have := @turnL_len n h <;> have := @turnL_len n (n / 2 - h) <;> omega
theorem dhK_bd {n h v k c : Nat} {b : Int} {g : Gf} (hg : BdG b g) : BdG (b + 4) (dhK n h v k c g) := by
 have h1 : BdG (b + (turn2 n h k).length * 1) (dhK n h v k c g) := BdG.iter hg fun k _ b g hg => hg.inc _ _ _
 refine h1.mono ?_
 unfold turn2
 rw [List.length_append]
 have := @turnL_len n (h + k)
 have := @turnL_len n (max (h - k) (k - h))
 omega
theorem onesD_le {n : Nat} : onesD n ≤ 4 := by unfold onesD; split <;> omega
theorem dhH_bd {n h : Nat} (hn : n ≤ 18) {b : Int} {g : Gf} (hg : BdG b g) : BdG (b + 48) (dhH n h g) := by
 have h1 : BdG (b + (onesD n : Nat) * 4 + ((n - 1) / 2 : Nat) * 4) (dhH n h g) := BdG.iter (BdG.iter hg fun k _ b g hg => dhA_bd hg) fun k _ b g hg => dhK_bd hg
 refine h1.mono ?_
 have := @onesD_le n
 omega
theorem dhdG_bd {n k : Nat} (hn : n ≤ 18) : BdG (1 + k * 48) (dhdG n k) := BdG.iter grpG_bd fun k _ b g hg => dhH_bd hn hg
theorem dhdT_drw {n m : Nat} (h1 : 1 ≤ n) (hn : n ≤ 9) (h : dhdN n ≤ m) : Drw m (dhdT n) := by
 have h2 : 2 ≤ onesD n := by unfold onesD; split <;> omega
 refine drw_of (by unfold dhdN; omega) h (dhdG_bd (n := n) (by omega)) ?_
 have h3 : 2 + (n - 1) / 2 ≤ dhdN n := by unfold dhdN; omega
 have h4 : (2 + (n - 1) / 2) ^ 5 ≤ (dhdN n) ^ 5 := Nat.pow_le_pow_left h3 5
 have e : (((dhdN n) ^ 5 : Nat) : Int) = ((dhdN n : Nat) : Int) ^ 5 := by push_cast; rfl
 have h5 : (n - 1) / 2 = 0 ∨ (n - 1) / 2 = 1 ∨ (n - 1) / 2 = 2 ∨ (n - 1) / 2 = 3 ∨ (n - 1) / 2 = 4 := by omega
 rcases h5 with h5 | h5 | h5 | h5 | h5 <;> rw [h5] at h4 ⊢ <;> omega
theorem getD_out {α : Type} {l : List α} {i : Nat} {d : α} (h : l.length ≤ i) : l.getD i d = d := by simp [List.getD, h]
theorem e3_bd {n : Nat} {g : Gf} {b : Int} (h : BdG b g) (hb : 0 ≤ b) : BdG b (e3 (cubF n g)) := by
 intro x y z
 by_cases hx : x < n
 ·by_cases hy : y < n
  ·by_cases hz : z < n
   ·rw [cubF_e3 hx hy hz]
    exact h x y z
   ·have e : e3 (cubF n g) x y z = 0 := by
     simp only [e3, e2, cubF_get hx, matF_get hy]
     exact getD_out (by rw [rowF_length]; omega)
    rw [e]
    exact ⟨Int.le_refl 0, hb⟩
  ·have e : e3 (cubF n g) x y z = 0 := by
    simp only [e3, e2, cubF_get hx]
    rw [getD_out (l := matF n n (g x)) (by rw [matF_length]; omega)]
    rfl
   rw [e]
   exact ⟨Int.le_refl 0, hb⟩
 ·have e : e3 (cubF n g) x y z = 0 := by
   simp only [e3, e2]
   rw [getD_out (l := cubF n g) (by rw [cubF_length]; omega)]
   rfl
  rw [e]
  exact ⟨Int.le_refl 0, hb⟩
theorem prdT_drw {a b : Cu} {m1 m2 m : Nat} (ha : Drw m1 a) (hb : Drw m2 b) (h : a.length * b.length ≤ m) : Drw m (prdT a b) := by
 obtain ⟨a1, a2, f, ea, fa⟩ := ha
 obtain ⟨b1, b2, g, eb, gb⟩ := hb
 have hp : 1 ≤ a.length * b.length := Nat.mul_pos a1 b1
 have pa := pow5_pos a1
 have pb := pow5_pos b1
 refine drw_of (b := (a.length : Int) ^ 5 * (b.length : Int) ^ 5) hp h (fun x y z => ?_) ?_
 ·have h1 := e3_bd (n := a.length) fa (by omega) (x / b.length) (y / b.length) (z / b.length)
  have h2 := e3_bd (n := b.length) gb (by omega) (x % b.length) (y % b.length) (z % b.length)
  rw [← ea] at h1
  rw [← eb] at h2
  exact ⟨Int.mul_nonneg h1.1 h2.1, Int.mul_le_mul h1.2 h2.2 h2.1 (by omega)⟩
 ·rw [Int.natCast_mul, Int.mul_pow]
  exact Int.le_refl _
end Go.Pl
namespace Go.Pl
open Go.Aw
structure Mv (j : Nat) (s s' : Src) : Prop where
 code : s'.code = s.code
 h : s'.h = adv j s.h
 pos : s'.pos = min (s.pos + j) s.code.length
theorem nx_mv {s : Src} (hs : s.Ok) {n : Int} (hn : 1 ≤ n) : Mv 1 s (nx s n).2 := by
 have hp := hs.pos
 unfold nx
 rw [if_neg (by omega)]
 split
 ·exact ⟨rfl, rfl, by dsimp only; omega⟩
 ·exact ⟨rfl, rfl, by dsimp only; omega⟩
theorem Mv.ok {j : Nat} {s s' : Src} (m : Mv j s s') (hs : s.Ok) : s'.Ok := by
 refine ⟨by rw [m.code]; exact hs.len, fun i hi => ?_, by rw [m.pos, m.code]; omega, by rw [m.h]; exact adv_bd hs.h j⟩
 rw [m.code] at hi ⊢
 exact hs.byte i hi
theorem Mv.trans {j k : Nat} {s s' s'' : Src} (m : Mv j s s') (n : Mv k s' s'') : Mv (j + k) s s'' := by
 refine ⟨n.code.trans m.code, ?_, ?_⟩
 ·rw [n.h, m.h, adv_add]
 ·rw [n.pos, m.pos, m.code]
  omega
def dOrdL (most : Int) : Nat → List Int → Int → Src → List Int × Src
 | 0, o, _, s => (o, (nx s 2).2)
 | k + 1, o, z, s =>
  if (nx s 2).1 = 0 ∧ 2 * z ≤ most then
   dOrdL most k (o ++ [2 + (nx (nx s 2).2 (most / z - 1)).1]) (z * (2 + (nx (nx s 2).2 (most / z - 1)).1)) (nx (nx s 2).2 (most / z - 1)).2
  else (o, (nx s 2).2)
def dOrd (s : Src) (most : Int) : List Int × Src := dOrdL most 3 [1 + (nx s most).1] (1 + (nx s most).1) (nx s most).2
theorem PosO_snoc {o : List Int} (h : PosO o) {x : Int} (hx : 1 ≤ x) : PosO (o ++ [x]) := by
 refine ⟨by simp, fun i hi => ?_⟩
 rw [List.length_append, List.length_singleton] at hi
 by_cases h1 : i < o.length
 ·rw [show (o ++ [x]).getD i 0 = o.getD i 0 by simp [List.getD, List.getElem?_append_left h1]]
  exact h.2 i h1
 ·obtain rfl : i = o.length := by omega
  simpa [List.getD] using hx
theorem div_more {z most : Int} (hz : 1 ≤ z) (h : 2 * z ≤ most) : 2 ≤ most / z ∧ z * (most / z) ≤ most := by
 refine ⟨(Int.le_ediv_iff_mul_le (by omega)).2 h, Int.mul_ediv_self_le (by omega)⟩
theorem dOrdL_fact {most : Int} : ∀ (k : Nat) {o : List Int} {z : Int} {s : Src}, s.Ok → PosO o → prodO o = z → 1 ≤ z → z ≤ most →
  PosO (dOrdL most k o z s).1 ∧ prodO (dOrdL most k o z s).1 ≤ most ∧ ∃ j, 1 ≤ j ∧ j ≤ 2 * k + 1 ∧ Mv j s (dOrdL most k o z s).2
 | 0, o, z, s, hs, ho, hp, h1, h2 => ⟨ho, by show prodO o ≤ most; omega, 1, Nat.le_refl 1, Nat.le_refl 1, nx_mv hs (by decide)⟩
 | k + 1, o, z, s, hs, ho, hp, h1, h2 => by
  unfold dOrdL
  split
  ·rename_i hc
   have hd := div_more h1 hc.2
   have m1 := nx_mv hs (n := 2) (by decide)
   have m2 := nx_mv (m1.ok hs) (n := most / z - 1) (by omega)
   have hb := nx_bd (nx s 2).2 (n := most / z - 1) (by omega)
   generalize nx (nx s 2).2 (most / z - 1) = r at *
   have h3 : z * (2 + r.1) ≤ z * (most / z) := Int.mul_le_mul_of_nonneg_left (by omega) (by omega)
   have h4 : z * 1 ≤ z * (2 + r.1) := Int.mul_le_mul_of_nonneg_left (by omega) (by omega)
   obtain ⟨a, b, j, c, d, e⟩ := dOrdL_fact (most := most) k (o := o ++ [2 + r.1]) (z := z * (2 + r.1)) ((m1.trans m2).ok hs) (PosO_snoc ho (by omega)) (by rw [prodO_append, hp]) (by omega) (by omega)
   exact ⟨a, b, 1 + 1 + j, by omega, by omega, (m1.trans m2).trans e⟩
  ·exact ⟨ho, by show prodO o ≤ most; omega, 1, Nat.le_refl 1, by omega, nx_mv hs (by decide)⟩
theorem dOrd_fact {s : Src} (hs : s.Ok) {most : Int} (h : 1 ≤ most) : PosO (dOrd s most).1 ∧ prodO (dOrd s most).1 ≤ most ∧ ∃ j, 1 ≤ j ∧ j ≤ 8 ∧ Mv j s (dOrd s most).2 := by
 have m1 := nx_mv hs h
 have hb := nx_bd s h
 unfold dOrd
 generalize nx s most = r at *
 obtain ⟨a, b, j, c, d, e⟩ := dOrdL_fact (most := most) 3 (o := [1 + r.1]) (z := 1 + r.1) (m1.ok hs) ⟨by simp, fun i hi => by
  obtain rfl : i = 0 := by simpa using hi
  show 1 ≤ 1 + r.1
  omega⟩ (by show (1 + r.1) * 1 = _; omega) (by omega) (by omega)
 exact ⟨a, b, 1 + j, by omega, by omega, m1.trans e⟩
def pk5 (s : Src) : Int × Src := ([1, 2, 3, 4, (nx s 20).1].getD (nx (nx s 20).2 5).1.toNat 0, (nx (nx s 20).2 5).2)
theorem pk5_fact {s : Src} (hs : s.Ok) : 0 ≤ (pk5 s).1 ∧ (pk5 s).1 ≤ 19 ∧ Mv 2 s (pk5 s).2 := by
 have m1 := nx_mv hs (n := 20) (by decide)
 have m2 := nx_mv (m1.ok hs) (n := 5) (by decide)
 have b1 := nx_bd s (n := 20) (by decide)
 have b2 := nx_bd (nx s 20).2 (n := 5) (by decide)
 unfold pk5
 generalize nx (nx s 20).2 5 = r2 at *
 generalize nx s 20 = r1 at *
 refine ⟨?_, ?_, m1.trans m2⟩
 ·rcases (show r2.1 = 0 ∨ r2.1 = 1 ∨ r2.1 = 2 ∨ r2.1 = 3 ∨ r2.1 = 4 by omega) with e | e | e | e | e <;> rw [e] <;> simp <;> omega
 ·rcases (show r2.1 = 0 ∨ r2.1 = 1 ∨ r2.1 = 2 ∨ r2.1 = 3 ∨ r2.1 = 4 by omega) with e | e | e | e | e <;> rw [e] <;> simp <;> omega
def dhL (most : Nat) : Nat → Src → Nat × Src
 | 0, s => (0, s)
 | k + 1, s => if dhdN (1 + (nx s 9).1.toNat) ≤ most then (1 + (nx s 9).1.toNat, (nx s 9).2) else dhL most k (nx s 9).2
theorem dhL_fact {most : Nat} : ∀ (k : Nat) {s : Src}, s.Ok → (∃ j, j ≤ k ∧ Mv j s (dhL most k s).2) ∧ ((dhL most k s).1 = 0 ∨ (1 ≤ (dhL most k s).1 ∧ (dhL most k s).1 ≤ 9 ∧ dhdN (dhL most k s).1 ≤ most))
 | 0, s, hs => ⟨⟨0, Nat.le_refl 0, rfl, rfl, by have := hs.pos; show s.pos = _; omega⟩, .inl rfl⟩
 | k + 1, s, hs => by
  have m1 := nx_mv hs (n := 9) (by decide)
  have b1 := nx_bd s (n := 9) (by decide)
  unfold dhL
  split
  ·rename_i h
   exact ⟨⟨1, by omega, m1⟩, .inr ⟨by dsimp only; omega, by dsimp only; omega, h⟩⟩
  ·obtain ⟨⟨j, hj, m⟩, h⟩ := dhL_fact k (m1.ok hs)
   exact ⟨⟨1 + j, by omega, m1.trans m⟩, h⟩
def tlD (s : Src) (most : Nat) : Cu × Src := (spnT (nx s (2 * (most : Int))).1.toNat 2, (nx s (2 * (most : Int))).2)
theorem tlD_fact {s : Src} (hs : s.Ok) {most : Nat} (h : 1 ≤ most) : Drw most (tlD s most).1 ∧ Mv 1 s (tlD s most).2 := by
 have b1 := nx_bd s (n := 2 * (most : Int)) (by omega)
 exact ⟨spnT_drw (by omega), nx_mv hs (by omega)⟩
def drS (s : Src) (most : Nat) (x : Int) : Cu × Src :=
 if x = 0 then (grpT (dOrd s most).1 0, (dOrd s most).2)
 else if x = 1 ∧ 2 ≤ most then (dhgT (1 + (nx s (most / 2 : Nat)).1.toNat), (nx s (most / 2 : Nat)).2)
 else if x = 2 then (if (dhL most 8 s).1 = 0 then tlD (dhL most 8 s).2 most else (dhdT (dhL most 8 s).1, (dhL most 8 s).2))
 else if x = 3 ∧ 2 ≤ most then (nearT (dOrd s (most - 1 : Nat)).1 0, (dOrd s (most - 1 : Nat)).2)
 else if x = 4 ∧ 2 ≤ most then (nearT (dOrd s (most - 1 : Nat)).1 (pk5 (dOrd s (most - 1 : Nat)).2).1, (pk5 (dOrd s (most - 1 : Nat)).2).2)
 else if x = 5 then (spnT (nx s most).1.toNat 1, (nx s most).2)
 else tlD s most
def drw : Nat → Src → Nat → Option (Cu × Src)
 | 0, _, _ => none
 | f + 1, s, most =>
  if (nx s 8).1 = 6 ∧ 4 ≤ most then
   (drw f (nx s 8).2 (most / 2)).bind fun a => (drw f a.2 (most / a.1.length)).map fun b => (prdT a.1 b.1, b.2)
  else some (drS (nx s 8).2 most (nx s 8).1)
theorem drS_fact {s : Src} (hs : s.Ok) {most : Nat} (h : 1 ≤ most) (x : Int) : Drw most (drS s most x).1 ∧ ∃ j, j ≤ 10 ∧ Mv j s (drS s most x).2 := by
 have T := tlD_fact hs h
 unfold drS
 split
 ·obtain ⟨a, b, j, c, d, e⟩ := dOrd_fact hs (most := most) (by omega)
  exact ⟨grpT_drw a b, j, by omega, e⟩
 split
 ·have m1 := nx_mv hs (n := (most / 2 : Nat)) (by omega)
  have b1 := nx_bd s (n := (most / 2 : Nat)) (by omega)
  exact ⟨dhgT_drw (by omega) (by omega), 1, by omega, m1⟩
 split
 ·obtain ⟨⟨j, hj, m⟩, hd⟩ := dhL_fact (most := most) 8 hs
  split
  ·have T := tlD_fact (m.ok hs) h
   exact ⟨T.1, j + 1, by omega, m.trans T.2⟩
  ·rcases hd with hd | ⟨h1, h2, h3⟩
   ·contradiction
   ·exact ⟨dhdT_drw h1 h2 h3, j, by omega, m⟩
 split
 ·obtain ⟨a, b, j, c, d, e⟩ := dOrd_fact hs (most := (most - 1 : Nat)) (by omega)
  exact ⟨nearT_drw a (by omega) (by omega) (by omega), j, by omega, e⟩
 split
 ·obtain ⟨a, b, j, c, d, e⟩ := dOrd_fact hs (most := (most - 1 : Nat)) (by omega)
  obtain ⟨p1, p2, m⟩ := pk5_fact (e.ok hs)
  exact ⟨nearT_drw a (by omega) p1 p2, j + 2, by omega, e.trans m⟩
 split
 ·have m1 := nx_mv hs (n := (most : Int)) (by omega)
  have b1 := nx_bd s (n := (most : Int)) (by omega)
  exact ⟨spnT_drw (by rw [Nat.div_one]; omega), 1, by omega, m1⟩
 ·exact ⟨T.1, 1, by omega, T.2⟩
theorem drw_step {f : Nat} {s : Src} {most : Nat} : drw (f + 1) s most = if (nx s 8).1 = 6 ∧ 4 ≤ most then
   (drw f (nx s 8).2 (most / 2)).bind fun a => (drw f a.2 (most / a.1.length)).map fun b => (prdT a.1 b.1, b.2)
  else some (drS (nx s 8).2 most (nx s 8).1) := rfl
theorem drw_prod {f : Nat} {s : Src} {most : Nat} {r : Cu × Src} (hc : (nx s 8).1 = 6 ∧ 4 ≤ most) (h : drw (f + 1) s most = some r) :
  ∃ a b, drw f (nx s 8).2 (most / 2) = some a ∧ drw f a.2 (most / a.1.length) = some b ∧ r = (prdT a.1 b.1, b.2) := by
 rw [drw_step, if_pos hc] at h
 obtain ⟨a, ha, h⟩ := Option.bind_eq_some_iff.1 h
 obtain ⟨b, hb, h⟩ := Option.map_eq_some_iff.1 h
 exact ⟨a, b, ha, hb, h.symm⟩
theorem div_bd {a b most : Nat} (h1 : 1 ≤ a) (h : b ≤ most / a) : a * b ≤ most := Nat.le_trans (Nat.mul_le_mul_left a h) (Nat.mul_div_le most a)
theorem drw_fact : ∀ (f : Nat) {s : Src} {most : Nat} {r : Cu × Src}, s.Ok → 1 ≤ most → drw f s most = some r → Drw most r.1 ∧ ∃ j, 1 ≤ j ∧ Mv j s r.2
 | 0, s, most, r, hs, h1, h => by cases h
 | f + 1, s, most, r, hs, h1, h => by
  have m1 := nx_mv hs (n := 8) (by decide)
  by_cases hc : (nx s 8).1 = 6 ∧ 4 ≤ most
  ·obtain ⟨a, b, ha, hb, rfl⟩ := drw_prod hc h
   obtain ⟨da, i, hi, mi⟩ := drw_fact f (m1.ok hs) (by omega) ha
   have a1 := da.1
   have a2 := da.2.1
   have hq : 1 ≤ most / a.1.length := Nat.div_pos (by omega) a1
   obtain ⟨db, j, hj, mj⟩ := drw_fact f (mi.ok (m1.ok hs)) hq hb
   exact ⟨prdT_drw da db (div_bd a1 db.2.1), 1 + i + j, by omega, (m1.trans mi).trans mj⟩
  ·rw [drw_step, if_neg hc] at h
   cases h
   obtain ⟨d, j, hj, m⟩ := drS_fact (m1.ok hs) h1 (nx s 8).1
   exact ⟨d, 1 + j, by omega, m1.trans m⟩
theorem drw_mono : ∀ (f : Nat) {s : Src} {most : Nat} {r : Cu × Src}, drw f s most = some r → drw (f + 1) s most = some r
 | 0, s, most, r, h => by cases h
 | f + 1, s, most, r, h => by
  by_cases hc : (nx s 8).1 = 6 ∧ 4 ≤ most
  ·obtain ⟨a, b, ha, hb, rfl⟩ := drw_prod hc h
   rw [drw_step, if_pos hc, drw_mono f ha, Option.bind_some, drw_mono f hb]
   rfl
  ·rw [drw_step, if_neg hc] at h ⊢
   exact h
theorem drw_le {f g : Nat} (hfg : f ≤ g) {s : Src} {most : Nat} {r : Cu × Src} (h : drw f s most = some r) : drw g s most = some r := by
 obtain ⟨d, rfl⟩ : ∃ d, g = f + d := ⟨g - f, by omega⟩
 clear hfg
 induction d with
 | zero => exact h
 | succ d ih => exact drw_mono _ ih
def Fin (s : Src) (most : Nat) (r : Cu × Src) : Prop := ∃ f, drw f s most = some r
theorem fin_small {s : Src} {most : Nat} (h : ¬((nx s 8).1 = 6 ∧ 4 ≤ most)) : Fin s most (drS (nx s 8).2 most (nx s 8).1) := ⟨1, by rw [drw_step, if_neg h]⟩
theorem fin_prod {s : Src} {most : Nat} {a b : Cu × Src} (hc : (nx s 8).1 = 6 ∧ 4 ≤ most) (ha : Fin (nx s 8).2 (most / 2) a) (hb : Fin a.2 (most / a.1.length) b) : Fin s most (prdT a.1 b.1, b.2) := by
 obtain ⟨f, ha⟩ := ha
 obtain ⟨g, hb⟩ := hb
 refine ⟨max f g + 1, ?_⟩
 rw [drw_step, if_pos hc, drw_le (Nat.le_max_left f g) ha, Option.bind_some, drw_le (Nat.le_max_right f g) hb]
 rfl
end Go.Pl
namespace Go.Pl
open Go.Aw
def Sim (c : List Int) (s b : Src) : Prop := ∃ h, s = ⟨c, c.length, h⟩ ∧ b = ⟨[], 0, h⟩
theorem nx_sim {c : List Int} {s b : Src} (h : Sim c s b) (n : Int) : (nx s n).1 = (nx b n).1 ∧ Sim c (nx s n).2 (nx b n).2 := by
 obtain ⟨x, rfl, rfl⟩ := h
 unfold nx
 split
 ·exact ⟨rfl, x, rfl, rfl⟩
 ·rw [if_neg (Nat.lt_irrefl _), if_neg (show ¬(0 < ([] : List Int).length) from Nat.lt_irrefl 0)]
  exact ⟨rfl, nxH x, rfl, rfl⟩
theorem dOrdL_sim {c : List Int} {most : Int} : ∀ (k : Nat) {o : List Int} {z : Int} {s b : Src}, Sim c s b → (dOrdL most k o z s).1 = (dOrdL most k o z b).1 ∧ Sim c (dOrdL most k o z s).2 (dOrdL most k o z b).2
 | 0, o, z, s, b, h => ⟨rfl, (nx_sim h 2).2⟩
 | k + 1, o, z, s, b, h => by
  obtain ⟨e1, h1⟩ := nx_sim h 2
  obtain ⟨e2, h2⟩ := nx_sim h1 (most / z - 1)
  unfold dOrdL
  rw [e1]
  split
  ·rw [e2]
   exact dOrdL_sim k h2
  ·exact ⟨rfl, h1⟩
theorem dOrd_sim {c : List Int} {most : Int} {s b : Src} (h : Sim c s b) : (dOrd s most).1 = (dOrd b most).1 ∧ Sim c (dOrd s most).2 (dOrd b most).2 := by
 obtain ⟨e1, h1⟩ := nx_sim h most
 unfold dOrd
 rw [e1]
 exact dOrdL_sim 3 h1
theorem pk5_sim {c : List Int} {s b : Src} (h : Sim c s b) : (pk5 s).1 = (pk5 b).1 ∧ Sim c (pk5 s).2 (pk5 b).2 := by
 obtain ⟨e1, h1⟩ := nx_sim h 20
 obtain ⟨e2, h2⟩ := nx_sim h1 5
 unfold pk5
 rw [e1, e2]
 exact ⟨rfl, h2⟩
theorem dhL_sim {c : List Int} {most : Nat} : ∀ (k : Nat) {s b : Src}, Sim c s b → (dhL most k s).1 = (dhL most k b).1 ∧ Sim c (dhL most k s).2 (dhL most k b).2
 | 0, s, b, h => ⟨rfl, h⟩
 | k + 1, s, b, h => by
  obtain ⟨e1, h1⟩ := nx_sim h 9
  unfold dhL
  rw [e1]
  split
  ·exact ⟨rfl, h1⟩
  ·exact dhL_sim k h1
theorem tlD_sim {c : List Int} {most : Nat} {s b : Src} (h : Sim c s b) : (tlD s most).1 = (tlD b most).1 ∧ Sim c (tlD s most).2 (tlD b most).2 := by
 obtain ⟨e1, h1⟩ := nx_sim h (2 * (most : Int))
 unfold tlD
 rw [e1]
 exact ⟨rfl, h1⟩
theorem drS_sim {c : List Int} {most : Nat} {s b : Src} (h : Sim c s b) (x : Int) : (drS s most x).1 = (drS b most x).1 ∧ Sim c (drS s most x).2 (drS b most x).2 := by
 unfold drS
 split
 ·obtain ⟨e, h⟩ := dOrd_sim (most := most) h
  rw [e]
  exact ⟨rfl, h⟩
 split
 ·obtain ⟨e, h⟩ := nx_sim h (most / 2 : Nat)
  rw [e]
  exact ⟨rfl, h⟩
 split
 ·obtain ⟨e, h⟩ := dhL_sim (most := most) 8 h
  generalize dhL most 8 s = p at *
  generalize dhL most 8 b = q at *
  rw [e]
  split
  ·exact tlD_sim h
  ·exact ⟨rfl, h⟩
 split
 ·obtain ⟨e, h⟩ := dOrd_sim (most := (most - 1 : Nat)) h
  rw [e]
  exact ⟨rfl, h⟩
 split
 ·obtain ⟨e, h⟩ := dOrd_sim (most := (most - 1 : Nat)) h
  obtain ⟨e2, h2⟩ := pk5_sim h
  dsimp only
  rw [e, e2]
  exact ⟨rfl, h2⟩
 split
 ·obtain ⟨e, h⟩ := nx_sim h most
  rw [e]
  exact ⟨rfl, h⟩
 ·exact tlD_sim h
theorem drw_sim {c : List Int} : ∀ (f : Nat) {most : Nat} {s b : Src} {r : Cu × Src}, Sim c s b → drw f b most = some r → ∃ s', drw f s most = some (r.1, s') ∧ Sim c s' r.2
 | 0, most, s, b, r, h, e => by cases e
 | f + 1, most, s, b, r, h, e => by
  obtain ⟨e1, h1⟩ := nx_sim h 8
  by_cases hc : (nx b 8).1 = 6 ∧ 4 ≤ most
  ·obtain ⟨p, q, hp, hq, rfl⟩ := drw_prod hc e
   obtain ⟨sp, ep, hp⟩ := drw_sim f h1 hp
   obtain ⟨sq, eq, hq⟩ := drw_sim f hp hq
   refine ⟨sq, ?_, hq⟩
   rw [drw_step, e1, if_pos hc, ep, Option.bind_some]
   dsimp only
   rw [eq]
   rfl
  ·rw [drw_step, if_neg hc] at e
   cases e
   obtain ⟨e2, h2⟩ := drS_sim (most := most) h1 (nx b 8).1
   refine ⟨_, ?_, h2⟩
   rw [drw_step, e1, if_neg hc, ← e2]
def winB (h : Int) : Bool := (List.range 25).any fun k => h == adv k 0
def chk1 : Bool := (List.range 13).all fun k => (List.range 4).all fun m => match drw 8 ⟨[], 0, adv k 0⟩ (m + 4) with
 | some r => winB r.2.h
 | none => false
def chk2 : Bool := (List.range 25).all fun k => (List.range 10).all fun m => (drw 8 ⟨[], 0, adv k 0⟩ (m + 1)).isSome
theorem chk1_ok : chk1 = true := by decide +kernel
theorem chk2_ok : chk2 = true := by decide +kernel
def EndS (s : Src) : Prop := s.Ok ∧ s.pos = s.code.length
def At (d : Nat) (s : Src) : Prop := adv d s.h = 0
def Win (s : Src) : Prop := ∃ k, k < 25 ∧ s.h = adv k 0
def Res (d : Nat) (s : Src) : Prop := (∃ e, e < d ∧ At e s) ∨ Win s
theorem EndS.mv {j : Nat} {s s' : Src} (h : EndS s) (m : Mv j s s') : EndS s' := ⟨m.ok h.1, by rw [m.pos, m.code, h.2]; omega⟩
theorem at_mv {d j : Nat} {s s' : Src} (h : At d s) (m : Mv j s s') (hj : j ≤ d) : At (d - j) s' := by
 unfold At at *
 rw [m.h, ← adv_add, show j + (d - j) = d by omega]
 exact h
theorem at_over {d j : Nat} {s s' : Src} (h : At d s) (m : Mv j s s') (hj : d ≤ j) : s'.h = adv (j - d) 0 := by
 unfold At at h
 rw [m.h, show j = d + (j - d) by omega, adv_add, h, show d + (j - d) - d = j - d by omega]
theorem res_mv {d j : Nat} {s s' : Src} (h : At d s) (m : Mv j s s') (h1 : 1 ≤ j) (h2 : j ≤ 24) : Res d s' := by
 by_cases hj : j ≤ d
 ·exact .inl ⟨d - j, by omega, at_mv h m hj⟩
 ·exact .inr ⟨j - d, by omega, at_over h m (by omega)⟩
theorem Res.mono {d e : Nat} {s : Src} (h : Res d s) (hd : d ≤ e) : Res e s := by
 rcases h with ⟨a, h1, h2⟩ | h
 ·exact .inl ⟨a, by omega, h2⟩
 ·exact .inr h
theorem sim_of {s : Src} (h : EndS s) : Sim s.code s ⟨[], 0, s.h⟩ := by
 refine ⟨s.h, ?_, rfl⟩
 have := h.2
 cases s
 simp only at this
 subst this
 rfl
theorem chk1_use {s : Src} (h : EndS s) {k m : Nat} (hk : k < 13) (h4 : 4 ≤ m) (h7 : m ≤ 7) (e : s.h = adv k 0) : ∃ r, Fin s m r ∧ Win r.2 := by
 have h1 := List.all_eq_true.1 chk1_ok k (List.mem_range.2 hk)
 have h2 := List.all_eq_true.1 h1 (m - 4) (List.mem_range.2 (by omega))
 rw [show m - 4 + 4 = m by omega, ← e] at h2
 split at h2
 ·rename_i r er
  obtain ⟨s', e', y, es, eb⟩ := drw_sim 8 (sim_of h) er
  refine ⟨(r.1, s'), ⟨8, e'⟩, ?_⟩
  obtain ⟨i, hi, ei⟩ := List.any_eq_true.1 h2
  refine ⟨i, List.mem_range.1 hi, ?_⟩
  rw [eb] at ei
  rw [es]
  simpa using ei
 ·cases h2
theorem chk2_use {s : Src} (h : EndS s) {m : Nat} (h4 : 1 ≤ m) (h7 : m ≤ 10) (w : Win s) : ∃ r, Fin s m r := by
 obtain ⟨k, hk, e⟩ := w
 have h1 := List.all_eq_true.1 chk2_ok k (List.mem_range.2 hk)
 have h2 := List.all_eq_true.1 h1 (m - 1) (List.mem_range.2 (by omega))
 rw [show m - 1 + 1 = m by omega, ← e] at h2
 obtain ⟨r, er⟩ := Option.isSome_iff_exists.1 h2
 obtain ⟨s', e', y, es, eb⟩ := drw_sim 8 (sim_of h) er
 exact ⟨(r.1, s'), 8, e'⟩
theorem fin_mv {s : Src} {m : Nat} {r : Cu × Src} (hs : s.Ok) (h1 : 1 ≤ m) (h : Fin s m r) : Drw m r.1 ∧ ∃ j, 1 ≤ j ∧ Mv j s r.2 := by
 obtain ⟨f, h⟩ := h
 exact drw_fact f hs h1 h
theorem small_mv {s : Src} {m : Nat} (hs : s.Ok) (h1 : 1 ≤ m) (h : ¬((nx s 8).1 = 6 ∧ 4 ≤ m)) : ∃ r, Fin s m r ∧ Drw m r.1 ∧ ∃ j, 1 ≤ j ∧ j ≤ 11 ∧ Mv j s r.2 := by
 have m1 := nx_mv hs (n := 8) (by decide)
 obtain ⟨d, j, hj, mj⟩ := drS_fact (m1.ok hs) h1 (nx s 8).1
 exact ⟨_, fin_small h, d, 1 + j, by omega, by omega, m1.trans mj⟩
theorem lev1 : ∀ (d : Nat) {s : Src} {m : Nat}, EndS s → At d s → 4 ≤ m → m ≤ 7 → ∃ r, Fin s m r ∧ Res d r.2 := by
 intro d
 induction d using Nat.strongRecOn with
 | ind d ih =>
  intro s m hs hd h4 h7
  by_cases hc : (nx s 8).1 = 6 ∧ 4 ≤ m
  ·have m1 := nx_mv hs.1 (n := 8) (by decide)
   have s1 := hs.mv m1
   obtain ⟨a, fa, da, j, hj1, hj2, mj⟩ := small_mv (m := m / 2) s1.1 (by omega) (by omega)
   have s2 := s1.mv mj
   have mt := m1.trans mj
   have a1 := da.1
   have hq : 1 ≤ m / a.1.length := Nat.div_pos (by have := da.2.1; omega) a1
   have hq2 : m / a.1.length ≤ m := Nat.div_le_self _ _
   by_cases hm : 4 ≤ m / a.1.length
   ·by_cases hjd : 1 + j ≤ d
    ·obtain ⟨b, fb, rb⟩ := ih (d - (1 + j)) (by omega) s2 (at_mv hd mt hjd) hm (by omega)
     exact ⟨_, fin_prod hc fa fb, rb.mono (by omega)⟩
    ·obtain ⟨b, fb, rb⟩ := chk1_use s2 (k := 1 + j - d) (by omega) hm (by omega) (at_over hd mt (by omega))
     exact ⟨_, fin_prod hc fa fb, .inr rb⟩
   ·obtain ⟨b, fb, db, i, hi1, hi2, mi⟩ := small_mv (m := m / a.1.length) s2.1 hq (by omega)
    exact ⟨_, fin_prod hc fa fb, res_mv hd (mt.trans mi) (by omega) (by omega)⟩
  ·obtain ⟨r, fr, _, j, h1, h2, mj⟩ := small_mv hs.1 (by omega) hc
   exact ⟨r, fr, res_mv hd mj h1 (by omega)⟩
theorem at_some {s : Src} (h : s.Ok) : ∃ d, At d s := reach (y := 0) h.h ⟨by decide, by decide⟩
theorem lev2 : ∀ (d : Nat) {s : Src} {m : Nat}, EndS s → At d s → 1 ≤ m → m ≤ 10 → ∃ r, Fin s m r := by
 intro d
 induction d using Nat.strongRecOn with
 | ind d ih =>
  intro s m hs hd h1 h10
  by_cases hc : (nx s 8).1 = 6 ∧ 4 ≤ m
  ·by_cases h7 : m ≤ 7
   ·obtain ⟨r, fr, _⟩ := lev1 d hs hd hc.2 h7
    exact ⟨r, fr⟩
   ·have m1 := nx_mv hs.1 (n := 8) (by decide)
    have s1 := hs.mv m1
    rcases Nat.eq_zero_or_pos d with rfl | hd0
    ·exact chk2_use hs h1 h10 ⟨0, by omega, hd⟩
    ·have hd1 := at_mv hd m1 (by omega)
     obtain ⟨a, fa, ra⟩ := lev1 (d - 1) (m := m / 2) s1 hd1 (by omega) (by omega)
     obtain ⟨da, j, _, mj⟩ := fin_mv s1.1 (by omega) fa
     have s2 := s1.mv mj
     have a1 := da.1
     have hq : 1 ≤ m / a.1.length := Nat.div_pos (by have := da.2.1; omega) a1
     have hq2 : m / a.1.length ≤ m := Nat.div_le_self _ _
     rcases ra with ⟨e, he, hae⟩ | hw
     ·obtain ⟨b, fb⟩ := ih e (by omega) s2 hae hq (by omega)
      exact ⟨_, fin_prod hc fa fb⟩
     ·obtain ⟨b, fb⟩ := chk2_use s2 hq (by omega) hw
      exact ⟨_, fin_prod hc fa fb⟩
  ·obtain ⟨r, fr, _⟩ := small_mv hs.1 h1 hc
   exact ⟨r, fr⟩
theorem drw_ends : ∀ (n : Nat) {s : Src} {q : Nat}, s.Ok → s.code.length - s.pos = n → 1 ≤ q → q ≤ 10 → ∃ r, Fin s q r := by
 intro n
 induction n using Nat.strongRecOn with
 | ind n ih =>
  intro s q hs hn h1 h10
  have hp := hs.pos
  rcases Nat.eq_zero_or_pos n with rfl | hn0
  ·obtain ⟨d, hd⟩ := at_some hs
   exact lev2 d ⟨hs, by omega⟩ hd h1 h10
  ·by_cases hc : (nx s 8).1 = 6 ∧ 4 ≤ q
   ·have m1 := nx_mv hs (n := 8) (by decide)
    have s1 := m1.ok hs
    have e1 := m1.pos
    have c1 := m1.code
    obtain ⟨a, fa⟩ := ih ((nx s 8).2.code.length - (nx s 8).2.pos) (by rw [c1]; omega) (q := q / 2) s1 rfl (by omega) (by omega)
    obtain ⟨da, j, _, mj⟩ := fin_mv s1 (by omega) fa
    have a1 := da.1
    have hq : 1 ≤ q / a.1.length := Nat.div_pos (by have := da.2.1; omega) a1
    have hq2 : q / a.1.length ≤ q := Nat.div_le_self _ _
    have e2 := mj.pos
    have c2 := mj.code
    obtain ⟨b, fb⟩ := ih (a.2.code.length - a.2.pos) (by rw [c2, c1] at *; omega) (q := q / a.1.length) (mj.ok s1) rfl hq (by omega)
    exact ⟨_, fin_prod hc fa fb⟩
   ·exact ⟨_, fin_small hc⟩
end Go.Pl
namespace Go.Pl
open Go.Aw
section
variable {t : List (List (List Int))} {x y z : List Int}
end
end Go.Pl
