/-
  Products of data are data, if their numbers are in range. Of no program.
-/
import Derived.Test.YtphokmkmpelnfaaPlN
set_option linter.unusedSimpArgs false
set_option linter.unusedVariables false
namespace Go.Pl
open Go.Aw

/-! ### Sums over pairs -/
theorem sum_prod {F : Nat → Nat → Int} {n m : Nat} : sumTo (fun x => F (x / m) (x % m)) (n * m) = sumTo (fun i => sumTo (F i) m) n := by
  by_cases hm : m = 0
  · subst hm
    rw [Nat.mul_zero]
    simp only [sumTo]
    exact sum_zero.symm
  have key : ∀ (k : Nat) (j : Nat), j ≤ m → sumTo (fun x => F (x / m) (x % m)) (k * m + j) = sumTo (fun x => F (x / m) (x % m)) (k * m) + sumTo (F k) j := by
    intro k j
    induction j with
    | zero => intro _; simp [sumTo]
    | succ j ih =>
      intro hj
      rw [← Nat.add_assoc]
      simp only [sumTo]
      rw [ih (by omega)]
      have e1 : (k * m + j) / m = k := by rw [Nat.mul_comm, Nat.mul_add_div (by omega), Nat.div_eq_of_lt (by omega), Nat.add_zero]
      have e2 : (k * m + j) % m = j := by rw [Nat.mul_comm, Nat.mul_add_mod, Nat.mod_eq_of_lt (by omega)]
      rw [e1, e2, Int.add_assoc]
  induction n with
  | zero => simp [sumTo]
  | succ n ih =>
    rw [Nat.succ_mul, key n m (Nat.le_refl _), ih]
    rfl
theorem sum_prod2 {f g : Nat → Int} {n m : Nat} : sumTo (fun x => f (x / m) * g (x % m)) (n * m) = sumTo f n * sumTo g m := by
  rw [sum_prod (F := fun i j => f i * g j), ← sum_mul]
  exact sum_congr fun i _ => mul_sum
theorem dm_lt {n m x : Nat} (h : x < n * m) : x / m < n ∧ x % m < m := by
  have hm : 0 < m := by
    rcases Nat.eq_zero_or_pos m with e | e
    · subst e; rw [Nat.mul_zero] at h; omega
    · exact e
  exact ⟨by rw [Nat.div_lt_iff_lt_mul hm]; exact h, Nat.mod_lt _ hm⟩
theorem pair_lt {n m i j : Nat} (hi : i < n) (hj : j < m) : i * m + j < n * m := by
  have : (i + 1) * m ≤ n * m := Nat.mul_le_mul_right m hi
  rw [Nat.succ_mul] at this
  omega
theorem pair_div {m i j : Nat} (hj : j < m) : (i * m + j) / m = i := by rw [Nat.mul_comm, Nat.mul_add_div (by omega), Nat.div_eq_of_lt hj, Nat.add_zero]
theorem pair_mod {m i j : Nat} (hj : j < m) : (i * m + j) % m = j := by rw [Nat.mul_comm, Nat.mul_add_mod, Nat.mod_eq_of_lt hj]
theorem pair_dm (x m : Nat) : x / m * m + x % m = x := by rw [Nat.mul_comm]; exact Nat.div_add_mod x m
theorem pair_eq {m x y : Nat} : x = y ↔ x / m = y / m ∧ x % m = y % m := by
  constructor
  · rintro rfl; exact ⟨rfl, rfl⟩
  · rintro ⟨h1, h2⟩
    rw [← pair_dm x m, ← pair_dm y m, h1, h2]

/-! ### Matrices that are products -/
def Kr (n m : Nat) (A A1 A2 : List (List Int)) : Prop := ∀ x, x < n * m → ∀ y, y < n * m → Cg (e2 A x y) (e2 A1 (x / m) (y / m) * e2 A2 (x % m) (y % m))
theorem Kr.mul {n m : Nat} {A A1 A2 B B1 B2 : List (List Int)} (ha : Kr n m A A1 A2) (hb : Kr n m B B1 B2) : Kr n m (mulM A B (n * m)) (mulM A1 B1 n) (mulM A2 B2 m) := by
  intro x hx y hy
  obtain ⟨hx1, hx2⟩ := dm_lt hx
  obtain ⟨hy1, hy2⟩ := dm_lt hy
  unfold mulM
  rw [matF_e2 hx hy, matF_e2 hx1 hy1, matF_e2 hx2 hy2]
  refine (Cg.md _).trans (Eq.trans ?_ (Cg.mul (Cg.md _).symm (Cg.md _).symm))
  have e : Cg (sumTo (pG A B x y) (n * m)) (sumTo (fun k => pG A1 B1 (x / m) (y / m) (k / m) * pG A2 B2 (x % m) (y % m) (k % m)) (n * m)) := Cg.sum fun k hk => by
    refine (Cg.mul (ha x hx k hk) (hb k hk y hy)).trans (Cg.of ?_)
    unfold pG
    simp only [Int.mul_assoc, Int.mul_comm, Int.mul_left_comm]
  refine e.trans (Cg.of ?_)
  exact sum_prod2
def prS (s z : List (List Int)) (n m : Nat) : List (List Int) := matF (n * m) (n * m) fun x y => e2 s (x / m) (y / m) * e2 z (x % m) (y % m) % 55441
def prT (t u : List Int) (n m : Nat) : List Int := rowF (n * m) fun x => t.getD (x / m) 0 * u.getD (x % m) 0 % 55441
section
variable {s : List (List Int)} {t : List Int} {z : List (List Int)} {u : List Int}
theorem prS_e2 {n m x y : Nat} (hx : x < n * m) (hy : y < n * m) : e2 (prS s z n m) x y = e2 s (x / m) (y / m) * e2 z (x % m) (y % m) % 55441 := matF_e2 hx hy
theorem prT_get {n m x : Nat} (hx : x < n * m) : (prT t u n m).getD x 0 = t.getD (x / m) 0 * u.getD (x % m) 0 % 55441 := rowF_get hx
theorem prT_length {n m : Nat} : (prT t u n m).length = n * m := rowF_length ..
theorem kr_S {n m : Nat} : Kr n m (prS s z n m) s z := fun x hx y hy => by rw [prS_e2 hx hy]; exact Cg.md _
theorem mul_ne {a b : Int} (ha : InP a) (hb : InP b) (h1 : a ≠ 0) (h2 : b ≠ 0) : a * b % 55441 ≠ 0 := by
  intro h
  have : Cg (a * b) (a * 0) := by rw [Int.mul_zero]; exact h
  exact h2 (Cg.eq hb ⟨by decide, by decide⟩ (Cg.cancel ha h1 this))
theorem pr_shape (h1 : Shape s t) (h2 : Shape z u) (hN : t.length * u.length ≤ 16) : Shape (prS s z t.length u.length) (prT t u t.length u.length) := by
  have l1 := h1.1
  have l2 := h2.1
  have hp : 0 < t.length * u.length := Nat.mul_pos (by omega) (by omega)
  refine ⟨by rw [prT_length]; omega, by rw [prT_length]; exact hN, ?_, fun i hi => ?_⟩
  · rw [prT_length]
    exact matF_MatP fun _ _ _ _ => inP_md _
  · rw [prT_length] at hi
    rw [prT_get hi]
    exact inP_md _
theorem pr_start (h1 : Shape s t) (h2 : Shape z u) (g1 : StartP s t) (g2 : StartP z u) : StartP (prS s z t.length u.length) (prT t u t.length u.length) := by
  have l1 := h1.1
  have l2 := h2.1
  have hp : 0 < t.length * u.length := Nat.mul_pos (by omega) (by omega)
  unfold StartP
  rw [prT_length]
  refine ⟨fun i hi j hj => ?_, ?_, ?_, fun i hi => ?_, fun i hi => ?_⟩
  · obtain ⟨hi1, hi2⟩ := dm_lt hi
    obtain ⟨hj1, hj2⟩ := dm_lt hj
    rw [prS_e2 hi hj, prS_e2 hj hi, g1.1 _ hi1 _ hj1, g2.1 _ hi2 _ hj2]
  · rw [prS_e2 hp hp, Nat.zero_div, Nat.zero_mod, g1.2.1, g2.2.1]; decide
  · rw [prT_get hp, Nat.zero_div, Nat.zero_mod, g1.2.2.1, g2.2.2.1]; decide
  · obtain ⟨hi1, hi2⟩ := dm_lt hi
    rw [prS_e2 hp hi, Nat.zero_div, Nat.zero_mod]
    exact mul_ne (h1.2.2.1.inP (by omega) hi1) (h2.2.2.1.inP (by omega) hi2) (g1.2.2.2.1 _ hi1) (g2.2.2.2.1 _ hi2)
  · obtain ⟨hi1, hi2⟩ := dm_lt hi
    rw [prT_get hi]
    exact mul_ne (h1.2.2.2 _ hi1) (h2.2.2.2 _ hi2) (g1.2.2.2.2 _ hi1) (g2.2.2.2.2 _ hi2)
theorem pr_whole {n m : Nat} (hn : 1 ≤ n) (hm : 1 ≤ m) : wholeD (prS s z n m) (n * m) = wholeD s n * wholeD z m % 55441 := by
  have hp : 0 < n * m := Nat.mul_pos (by omega) (by omega)
  refine Cg.eq (inP_md _) (inP_md _) ((Cg.md _).trans (Eq.trans ?_ ((Cg.md _).symm.trans rfl)))
  refine Eq.trans ?_ (Cg.mul (Cg.md _).symm (Cg.md _).symm)
  have e : Cg (sumTo (wG (prS s z n m)) (n * m)) (sumTo (fun x => wG s (x / m) * wG z (x % m)) (n * m)) := Cg.sum fun x hx => by
    have hk := kr_S (s := s) (z := z) 0 hp x hx
    rw [Nat.zero_div, Nat.zero_mod] at hk
    refine (Cg.mul hk hk).trans (Cg.of ?_)
    unfold wG
    simp only [Int.mul_assoc, Int.mul_comm, Int.mul_left_comm]
  exact e.trans (Cg.of sum_prod2)
theorem pr_gauss {n m : Nat} (hn : 1 ≤ n) (hm : 1 ≤ m) : Cg (gaussD (prS s z n m) (prT t u n m) (n * m)) (gaussD s t n * gaussD z u m) := by
  have hp : 0 < n * m := Nat.mul_pos (by omega) (by omega)
  refine (Cg.md _).trans (Eq.trans ?_ (Cg.mul (Cg.md _).symm (Cg.md _).symm))
  have e : Cg (sumTo (gG (prS s z n m) (prT t u n m)) (n * m)) (sumTo (fun x => gG s t (x / m) * gG z u (x % m)) (n * m)) := Cg.sum fun x hx => by
    have hk := kr_S (s := s) (z := z) 0 hp x hx
    rw [Nat.zero_div, Nat.zero_mod] at hk
    unfold gG
    rw [prT_get hx]
    refine (Cg.mul ((Cg.md _).trans (Cg.mul hk hk)) (Cg.md _)).trans (Eq.trans (Cg.of ?_) (Cg.mul (Cg.mul (Cg.md (e2 s 0 (x / m) * e2 s 0 (x / m))).symm rfl) (Cg.mul (Cg.md (e2 z 0 (x % m) * e2 z 0 (x % m))).symm rfl)))
    simp only [Int.mul_assoc, Int.mul_comm, Int.mul_left_comm]
  exact e.trans (Cg.of sum_prod2)
theorem kr_U {n m : Nat} : Kr n m (uD (prS s z n m) (prT t u n m) (n * m)) (uD s t n) (uD z u m) := fun x hx y hy => by
  obtain ⟨hx1, hx2⟩ := dm_lt hx
  obtain ⟨hy1, hy2⟩ := dm_lt hy
  unfold uD
  rw [matF_e2 hx hy, matF_e2 hx1 hy1, matF_e2 hx2 hy2, prT_get hy]
  refine (Cg.md _).trans ((Cg.mul (kr_S x hx y hy) (Cg.md _)).trans (Eq.trans (Cg.of ?_) (Cg.mul (Cg.md _).symm (Cg.md _).symm)))
  simp only [Int.mul_assoc, Int.mul_comm, Int.mul_left_comm]
theorem pr_turn (h1 : Shape s t) (h2 : Shape z u) (g1 : TurnP s t) (g2 : TurnP z u) : TurnP (prS s z t.length u.length) (prT t u t.length u.length) := by
  have l1 := h1.1
  have l2 := h2.1
  unfold TurnP
  rw [prT_length]
  intro i hi j hj
  obtain ⟨hi1, hi2⟩ := dm_lt hi
  obtain ⟨hj1, hj2⟩ := dm_lt hj
  have hk : Kr t.length u.length (cubeD (prS s z t.length u.length) (prT t u t.length u.length) (t.length * u.length)) (cubeD s t t.length) (cubeD z u u.length) := (kr_U.mul kr_U).mul kr_U
  have hq : Kr t.length u.length (sqD (prS s z t.length u.length) (t.length * u.length)) (sqD s t.length) (sqD z u.length) := kr_S.mul kr_S
  refine Cg.eq ((mulM_MatP _ _ _).inP hi hj) (inP_md _) ((hk i hi j hj).trans ?_)
  rw [g1 _ hi1 _ hj1, g2 _ hi2 _ hj2]
  refine (Cg.mul (Cg.md _) (Cg.md _)).trans (Eq.trans (Cg.of ?_) ((Cg.mul (pr_gauss (s := s) (z := z) (t := t) (u := u) (n := t.length) (m := u.length) (by omega) (by omega)).symm (hq i hi j hj).symm).trans (Cg.md _).symm))
  simp only [Int.mul_assoc, Int.mul_comm, Int.mul_left_comm]
end
end Go.Pl
