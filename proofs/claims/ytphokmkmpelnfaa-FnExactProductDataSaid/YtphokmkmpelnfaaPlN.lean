/-
  The laws of a ring as equations; an invertible label permutes the labels. Of no program.
-/
import Derived.Test.YtphokmkmpelnfaaPlM
set_option linter.unusedSimpArgs false
set_option linter.unusedVariables false
namespace Go.Pl
open Go.Aw

theorem orE_none {α : Type} {a b : Option α} (h : orE a b = none) : a = none ∧ b = none := by
  cases a with
  | none => exact ⟨rfl, h⟩
  | some x => cases h
structure RingP (t : List (List (List Int))) : Prop where
  cube : Cube t
  left : ∀ i, i < t.length → ∀ k, k < t.length → e3 t 0 i k = dl i k
  right : ∀ i, i < t.length → ∀ k, k < t.length → e3 t i 0 k = dl i k
  dual : ∀ i, i < t.length → 0 ≤ dual t i ∧ dual t i < t.length
  invo : ∀ i, i < t.length → Pl.dual t (Pl.dual t i).toNat = i
  turn : ∀ i, i < t.length → ∀ j, j < t.length → ∀ k, k < t.length → e3 t i j k = e3 t (Pl.dual t i).toNat k j
  turn2 : ∀ i, i < t.length → ∀ j, j < t.length → ∀ k, k < t.length → e3 t i j k = e3 t k (Pl.dual t j).toNat i
  brack : ∀ i, i < t.length → ∀ j, j < t.length → ∀ k, k < t.length → ∀ l, l < t.length → sumTo (brL t i j k l) t.length = sumTo (brR t i j k l) t.length
theorem isRing_P {t : List (List (List Int))} (h : isRing t = true) : RingP t := by
  obtain ⟨hc, hf⟩ := isRing_true h
  unfold faultF at hf
  obtain ⟨h1, hf⟩ := orE_none hf
  obtain ⟨h2, hf⟩ := orE_none hf
  obtain ⟨h3, h4⟩ := orE_none hf
  have g1 : ∀ i, i < t.length → ∀ k, k < t.length → e3 t 0 i k = dl i k ∧ e3 t i 0 k = dl i k := fun i hi k hk => by
    have := first_none_iff.1 (first_none_iff.1 h1 i hi) k hk
    unfold unitG at this
    split at this
    · cases this
    · rename_i hh
      simp only [ne_eq, not_or, Decidable.not_not] at hh
      exact hh
  have g2 : ∀ i, i < t.length → 0 ≤ Pl.dual t i ∧ Pl.dual t (Pl.dual t i).toNat = i := fun i hi => by
    have := first_none_iff.1 h2 i hi
    unfold dualH at this
    split at this
    · cases this
    · rename_i hh
      simp only [ne_eq, not_or, Decidable.not_not] at hh
      omega
  have g3 : ∀ i, i < t.length → ∀ j, j < t.length → ∀ k, k < t.length → e3 t i j k = e3 t (Pl.dual t i).toNat k j ∧ e3 t i j k = e3 t k (Pl.dual t j).toNat i := fun i hi j hj k hk => by
    have := first_none_iff.1 (first_none_iff.1 (first_none_iff.1 h3 i hi) j hj) k hk
    unfold turnG at this
    split at this
    · cases this
    · rename_i hh
      simp only [ne_eq, not_or, Decidable.not_not] at hh
      exact hh
  refine ⟨hc, fun i hi k hk => (g1 i hi k hk).1, fun i hi k hk => (g1 i hi k hk).2, fun i hi => ?_, fun i hi => ?_, fun i hi j hj k hk => (g3 i hi j hj k hk).1, fun i hi j hj k hk => (g3 i hi j hj k hk).2, fun i hi j hj k hk l hl => ?_⟩
  · have h := (g2 i hi).1
    have hr := dualG_range (g := fun j => e3 t i j 0) (n := t.length) (List.range t.length) (-1) (fun j hj => by simpa using hj) (by omega) (by omega)
    exact ⟨h, hr.2⟩
  · exact (g2 i hi).2
  · have := first_none_iff.1 (first_none_iff.1 (first_none_iff.1 (first_none_iff.1 h4 i hi) j hj) k hk) l hl
    unfold brackG at this
    split at this
    · cases this
    · rename_i hh
      exact Decidable.not_not.1 hh
theorem RingP.faults {t : List (List (List Int))} (h : RingP t) : isRing t = true := by
  refine bd_true ⟨h.cube, ?_⟩
  have h1 : unitF t = none := first_none fun i hi => first_none fun k hk => by
    unfold unitG
    rw [if_neg]
    rintro (e | e)
    · exact e (h.left i hi k hk)
    · exact e (h.right i hi k hk)
  have h2 : dualF t = none := first_none fun i hi => by
    unfold dualH
    rw [if_neg]
    have := (h.dual i hi).1
    have h3 := h.invo i hi
    rintro (e | e)
    · omega
    · exact e h3
  have h3 : turnF t = none := first_none fun i hi => first_none fun j hj => first_none fun k hk => by
    unfold turnG
    rw [if_neg]
    rintro (e | e)
    · exact e (h.turn i hi j hj k hk)
    · exact e (h.turn2 i hi j hj k hk)
  have h4 : brackF t = none := first_none fun i hi => first_none fun j hj => first_none fun k hk => first_none fun l hl => by
    unfold brackG
    rw [if_neg]
    exact fun e => e (h.brack i hi j hj k hk l hl)
  unfold faultF
  rw [h1, h2, h3, h4]
  rfl
theorem sum_le_sum {f g : Nat → Int} : ∀ {n : Nat}, (∀ i, i < n → f i ≤ g i) → sumTo f n ≤ sumTo g n
  | 0, _ => Int.le_refl _
  | n + 1, h => by
    have h1 := sum_le_sum (n := n) (fun i hi => h i (by omega))
    have h2 := h n (by omega)
    simp only [sumTo]
    omega
theorem sum_eq_all {f g : Nat → Int} : ∀ {n : Nat}, (∀ i, i < n → f i ≤ g i) → sumTo f n = sumTo g n → ∀ i, i < n → f i = g i
  | 0, _, _, i, hi => by omega
  | n + 1, h, e, i, hi => by
    have h1 := sum_le_sum (n := n) (fun i hi => h i (by omega))
    have h2 := h n (by omega)
    simp only [sumTo] at e
    by_cases hin : i = n
    · subst hin; omega
    · exact sum_eq_all (n := n) (fun i hi => h i (by omega)) (by omega) i (by omega)
theorem sum_const {c : Int} {n : Nat} : sumTo (fun _ => c) n = n * c := by
  induction n with
  | zero => simp [sumTo]
  | succ n ih => simp only [sumTo]; rw [ih, Int.natCast_add, Int.add_mul]; simp
theorem sq_ge {x : Int} (h : 0 ≤ x) : x ≤ x * x := by
  by_cases h0 : x = 0
  · subst h0; decide
  · have : 1 * x ≤ x * x := Int.mul_le_mul_of_nonneg_right (by omega) h
    omega
theorem sq_one {x : Int} (h : 0 ≤ x) (h1 : x * x ≤ 1) : x * x = x := by
  have := sq_ge h
  by_cases h0 : x = 0
  · subst h0; decide
  · have : x = 1 := by omega
    subst this; decide
theorem term_le {f : Nat → Int} {n i : Nat} (h : ∀ i, i < n → 0 ≤ f i) (hi : i < n) : f i ≤ sumTo f n := by
  have h1 := sum_le_sum (f := fun k => if k = i then f k else 0) (g := f) (n := n) (fun k hk => by
    by_cases e : k = i
    · rw [if_pos e]; exact Int.le_refl _
    · rw [if_neg e]; exact h k hk)
  rw [sum_one hi] at h1
  exact h1
/-- A matrix of integers from 0 on whose columns are orthonormal has rows with the sum 1. -/
theorem row_one {n : Nat} {A : Nat → Nat → Int} (h0 : ∀ i, i < n → ∀ j, j < n → 0 ≤ A i j) (ho : ∀ j, j < n → ∀ l, l < n → sumTo (fun m => A m j * A m l) n = if j = l then 1 else 0) : ∀ m, m < n → sumTo (A m) n = 1 := by
  have hsq : ∀ m, m < n → ∀ j, j < n → A m j * A m j = A m j := fun m hm j hj => by
    have h1 := ho j hj j hj
    rw [if_pos rfl] at h1
    have h2 := term_le (f := fun m => A m j * A m j) (fun i hi => Int.mul_nonneg (h0 i hi j hj) (h0 i hi j hj)) hm
    exact sq_one (h0 m hm j hj) (by omega)
  have hcol : ∀ j, j < n → sumTo (fun m => A m j) n = 1 := fun j hj => by
    have h1 := ho j hj j hj
    rw [if_pos rfl] at h1
    rw [← h1]
    exact sum_congr fun m hm => (hsq m hm j hj).symm
  have hr : sumTo (fun m => sumTo (A m) n) n = n := by
    have : sumTo (fun m => sumTo (fun j => A m j) n) n = sumTo (fun _ => 1) n := by
      rw [sum_comm]
      exact sum_congr hcol
    rw [sum_const, Int.mul_one] at this
    exact this
  have hr2 : sumTo (fun m => sumTo (A m) n * sumTo (A m) n) n = n := by
    have e1 : sumTo (fun m => sumTo (A m) n * sumTo (A m) n) n = sumTo (fun m => sumTo (fun j => sumTo (fun l => A m j * A m l) n) n) n := sum_congr fun m _ => by
      rw [← sum_mul]
      exact sum_congr fun j _ => mul_sum.symm
    rw [e1, sum_comm]
    have e2 : sumTo (fun j => sumTo (fun m => sumTo (fun l => A m j * A m l) n) n) n = sumTo (fun _ => 1) n := sum_congr fun j hj => by
      rw [sum_comm]
      have e3' : sumTo (fun l => sumTo (fun m => A m j * A m l) n) n = sumTo (fun l => (if l = j then 1 else 0) * 1) n := sum_congr fun l hl => by
        rw [ho j hj l hl, Int.mul_one]
        by_cases e : j = l
        · rw [if_pos e, if_pos e.symm]
        · rw [if_neg e, if_neg (fun h => e h.symm)]
      rw [e3', sum_pick (f := fun _ => 1) hj]; rfl
    rw [e2, sum_const, Int.mul_one]
  have hnn : ∀ m, m < n → 0 ≤ sumTo (A m) n := fun m hm => by
    have := sum_le_sum (f := fun _ => 0) (g := A m) (n := n) (h0 m hm)
    rw [sum_zero] at this
    exact this
  have h1 := sum_eq_all (f := fun m => sumTo (A m) n) (g := fun m => sumTo (A m) n * sumTo (A m) n) (n := n) (fun m hm => sq_ge (hnn m hm)) (hr.trans hr2.symm)
  have hle : ∀ m, m < n → sumTo (A m) n ≤ 1 := fun m hm => by
    have h2 : sumTo (A m) n = sumTo (A m) n * sumTo (A m) n := h1 m hm
    by_cases hz : sumTo (A m) n ≤ 1
    · exact hz
    · have h3 : 2 * sumTo (A m) n ≤ sumTo (A m) n * sumTo (A m) n := Int.mul_le_mul_of_nonneg_right (by omega) (hnn m hm)
      omega
  exact sum_eq_all (f := fun m => sumTo (A m) n) (g := fun _ => 1) (n := n) hle (by rw [hr, sum_const, Int.mul_one])
/-- A label whose product with another one is 0 alone permutes the labels. -/
theorem RingP.perm {t : List (List (List Int))} (h : RingP t) {i j0 : Nat} (hi : i < t.length) (hj0 : j0 < t.length) (hr : ∀ m, m < t.length → e3 t i j0 m = if m = 0 then 1 else 0) : ∀ m, m < t.length → sumTo (e3 t i m) t.length = 1 := by
  have hd : (Pl.dual t i).toNat = j0 := by
    have h1 := h.turn i hi j0 hj0 0 (by omega)
    have h2 := h.dual i hi
    rw [hr 0 (by omega), if_pos rfl, h.right _ (by omega) _ hj0] at h1
    unfold dl at h1
    split at h1
    · omega
    · omega
  refine row_one (A := fun m j => e3 t i m j) (fun m hm j hj => (h.cube.inM hi hm hj).1) (fun j hj l hl => ?_)
  have hb := h.brack i hi j0 hj0 j hj l hl
  have e1 : sumTo (brL t i j0 j l) t.length = if j = l then 1 else 0 := by
    have : sumTo (brL t i j0 j l) t.length = sumTo (fun m => (if m = 0 then 1 else 0) * e3 t m j l) t.length := sum_congr fun m hm => by
      unfold brL
      rw [hr m hm]
    rw [this, sum_pick (f := fun m => e3 t m j l) (show 0 < t.length by omega), Int.one_mul, h.left j hj l hl]
    unfold dl
    by_cases e : j = l
    · rw [if_pos e, if_pos (by rw [e])]
    · rw [if_neg e, if_neg (by omega)]
  rw [← e1, hb]
  refine sum_congr fun m hm => ?_
  unfold brR
  rw [h.turn i hi m hm j hj, hd]
end Go.Pl
