/-
  Inverses by the prime are inverses; the square of a matrix of data; dimensions multiply. Of no program.
-/
import Derived.Test.YtphokmkmpelnfaaPlL
set_option linter.unusedSimpArgs false
set_option linter.unusedVariables false
namespace Go.Pl
open Go.Aw

/-! ### The inverse -/
def fmm (a b : Nat) : Nat := a * b % 55441
/-- The power with the exponent 55440. -/
def fpm (x : Nat) : Nat :=
  let a := fmm (fmm x x) x
  let a := fmm a a
  let a := fmm (fmm a a) x
  let a := fmm (fmm a a) x
  let a := fmm a a
  let a := fmm a a
  let a := fmm a a
  let a := fmm (fmm a a) x
  let a := fmm a a
  let a := fmm a a
  let a := fmm (fmm a a) x
  let a := fmm a a
  let a := fmm a a
  let a := fmm a a
  fmm a a
def fok (x : Nat) : Bool := Nat.ble 55441 x || Nat.beq x 0 || Nat.beq (fpm x) 1
def fall (lo : Nat) : Nat → Bool
  | 0 => fok lo
  | d + 1 => fall lo d && fall (lo + 2 ^ d) d
theorem fall_sound : ∀ (d lo : Nat), fall lo d = true → ∀ x, lo ≤ x → x < lo + 2 ^ d → fok x = true
  | 0, lo, h, x, h1, h2 => by
    have : x = lo := by omega
    subst this
    exact h
  | d + 1, lo, h, x, h1, h2 => by
    simp only [fall, Bool.and_eq_true] at h
    by_cases hx : x < lo + 2 ^ d
    · exact fall_sound d lo h.1 x h1 hx
    · exact fall_sound d (lo + 2 ^ d) h.2 x (by omega) (by rw [Nat.pow_succ] at h2; omega)
set_option maxRecDepth 100000 in
theorem fall_all : fall 0 16 = true := by decide +kernel
theorem fmm_pow (x m n : Nat) : fmm (x ^ m % 55441) (x ^ n % 55441) = x ^ (m + n) % 55441 := by unfold fmm; rw [← Nat.mul_mod, Nat.pow_add]
theorem fmm_one (x m : Nat) : fmm (x ^ m % 55441) x = x ^ (m + 1) % 55441 := by unfold fmm; rw [Nat.pow_succ, Nat.mul_mod, Nat.mod_mod, ← Nat.mul_mod]
def fE : Nat := 55439
def PW (x m a : Nat) : Prop := a = x ^ m % 55441
theorem PW.dbl {x m a : Nat} (h : PW x m a) : PW x (m + m) (fmm a a) := by
  unfold PW at h ⊢
  subst h
  exact fmm_pow x m m
theorem PW.inc {x m a : Nat} (h : PW x m a) : PW x (m + 1) (fmm a x) := by
  unfold PW at h ⊢
  subst h
  exact fmm_one x m
theorem PW.to {x m a k : Nat} (h : PW x m a) (e : m = k) : PW x k a := e ▸ h
theorem fpm_pw (x : Nat) : PW x (fE + 1) (fpm x) := by
  have h0 : PW x 2 (fmm x x) := by unfold PW fmm; rw [Nat.pow_succ, Nat.pow_one]
  have h1 := (h0.inc.dbl.dbl.inc.dbl.inc.dbl.dbl.dbl.dbl.inc.dbl.dbl.dbl.inc.dbl.dbl.dbl.dbl)
  exact h1.to (by decide)
theorem fpm_eq (x : Nat) : fpm x = x ^ (fE + 1) % 55441 := fpm_pw x
theorem fermat {x : Nat} (h0 : x ≠ 0) (h : x < 55441) : x ^ (fE + 1) % 55441 = 1 := by
  have h1 := fall_sound 16 0 fall_all x (Nat.zero_le _) (by omega)
  unfold fok at h1
  simp only [Bool.or_eq_true, Nat.ble_eq, Nat.beq_eq] at h1
  rw [← fpm_eq]
  omega
theorem mul_inv {x : Int} (h : InP x) (h0 : x ≠ 0) : x * inv x % 55441 = 1 := by
  obtain ⟨k, rfl⟩ := Int.eq_ofNat_of_zero_le h.1
  have h2 := h.2
  have hi : inv (k : Int) % 55441 = (k : Int) ^ fE % 55441 := inv_cg h
  rw [cgm rfl hi, Int.mul_comm, ← Int.pow_succ]
  have h3 := fermat (x := k) (by omega) (by omega)
  have h4 : ((k ^ (fE + 1) % 55441 : Nat) : Int) = 1 := by rw [h3]; rfl
  rw [Int.natCast_emod, Int.natCast_pow] at h4
  exact h4

/-! ### Sums, by the prime -/
def Cg (a b : Int) : Prop := a % 55441 = b % 55441
theorem Cg.mul {a a' b b' : Int} (h1 : Cg a a') (h2 : Cg b b') : Cg (a * b) (a' * b') := cgm h1 h2
theorem Cg.sum {f g : Nat → Int} {n : Nat} (h : ∀ i, i < n → Cg (f i) (g i)) : Cg (sumTo f n) (sumTo g n) := sum_cg h
theorem Cg.of {a b : Int} (h : a = b) : Cg a b := by rw [h]; rfl
theorem Cg.md (a : Int) : Cg (a % 55441) a := emd a
theorem sum_add {f g : Nat → Int} {n : Nat} : sumTo (fun i => f i + g i) n = sumTo f n + sumTo g n := by
  induction n with
  | zero => rfl
  | succ n ih => simp only [sumTo]; rw [ih]; omega
theorem sum_zero {n : Nat} : sumTo (fun _ => 0) n = 0 := by
  induction n with
  | zero => rfl
  | succ n ih => simp only [sumTo]; rw [ih]; rfl
theorem sum_comm {f : Nat → Nat → Int} {m n : Nat} : sumTo (fun i => sumTo (fun j => f i j) m) n = sumTo (fun j => sumTo (fun i => f i j) n) m := by
  induction n with
  | zero => simp only [sumTo]; exact sum_zero.symm
  | succ n ih => simp only [sumTo]; rw [ih, ← sum_add]
theorem mul_sum {f : Nat → Int} {c : Int} {n : Nat} : sumTo (fun i => c * f i) n = c * sumTo f n := by
  rw [Int.mul_comm, ← sum_mul]
  exact sum_congr fun i _ => Int.mul_comm _ _
theorem sum_pick {f : Nat → Int} {x : Int} {n j : Nat} (hj : j < n) : sumTo (fun k => (if k = j then x else 0) * f k) n = x * f j := by
  rw [← sum_one (f := fun k => x * f k) hj]
  refine sum_congr fun k _ => ?_
  by_cases h : k = j
  · rw [if_pos h, if_pos h]
  · rw [if_neg h, if_neg h, Int.zero_mul]
theorem Cg.cancel {w a b : Int} (hw : InP w) (h0 : w ≠ 0) (h : Cg (w * a) (w * b)) : Cg a b := by
  have e : ∀ x : Int, Cg (inv w * (w * x)) x := fun x => by
    have h1 : Cg (inv w * (w * x)) (1 * x) := by
      rw [← Int.mul_assoc, Int.mul_comm (inv w)]
      exact Cg.mul (mul_inv hw h0) rfl
    rw [Int.one_mul] at h1
    exact h1
  exact (e a).symm.trans ((Cg.mul (Eq.refl (inv w % 55441)) h).trans (e b))
theorem Cg.eq {a b : Int} (ha : InP a) (hb : InP b) (h : Cg a b) : a = b := by
  rw [← md_InP ha, ← md_InP hb]
  exact h

/-! ### The square of S -/
def qS (s : List (List Int)) (n i j : Nat) : Int := sumTo (fun k => e2 s i k * e2 s k j) n
def cN (s : List (List Int)) (n i : Nat) : Nat := (cI s n i).toNat
theorem q_assoc (s : List (List Int)) (n i j : Nat) : sumTo (fun m => qS s n i m * e2 s m j) n = sumTo (fun m => e2 s i m * qS s n m j) n := by
  have e1 : sumTo (fun m => qS s n i m * e2 s m j) n = sumTo (fun m => sumTo (fun k => e2 s i k * e2 s k m * e2 s m j) n) n := sum_congr fun m _ => by unfold qS; rw [sum_mul]
  have e2' : sumTo (fun m => e2 s i m * qS s n m j) n = sumTo (fun k => sumTo (fun m => e2 s i k * e2 s k m * e2 s m j) n) n := sum_congr fun k _ => by
    unfold qS
    rw [← mul_sum]
    exact sum_congr fun m _ => (Int.mul_assoc _ _ _).symm
  rw [e1, e2', sum_comm]
section
variable {s : List (List Int)} {t : List Int}
theorem data_c (h : isData s t = true) : (∀ i, i < t.length → cN s t.length i < t.length ∧ (cN s t.length i : Int) = cI s t.length i) ∧ cN s t.length 0 = 0 ∧ ∀ i, i < t.length → cN s t.length i = 0 → i = 0 := by
  obtain ⟨hs, hst, hw, c, hc, hT, hR⟩ := isData_some h
  obtain ⟨-, hg⟩ := cj_get hc
  have h1 := hs.1
  have hl : ∀ i, i < t.length → cN s t.length i < t.length ∧ (cN s t.length i : Int) = cI s t.length i := fun i hi => by
    have h2 := (hg i hi).1.1
    have h3 := cI_lt (s := s) hi
    unfold cN
    omega
  refine ⟨hl, ?_, fun i hi h0 => ?_⟩
  · have := (hg 0 (by omega)).2.2.2.1 rfl
    unfold cN
    omega
  · have h2 := (hl i hi).2
    exact (hg i hi).2.2.2.2 (by omega)
theorem q_cg (h : isData s t = true) {i m : Nat} (hi : i < t.length) (hm : m < t.length) : Cg (qS s t.length i m) (if m = cN s t.length i then wholeD s t.length else 0) := by
  obtain ⟨hs, hst, hw, c, hc, hT, hR⟩ := isData_some h
  obtain ⟨-, hg⟩ := cj_get hc
  have hg := (hg i hi).1
  have e : e2 (sqD s t.length) i m = qS s t.length i m % 55441 := matF_e2 hi hm
  unfold Cg
  rw [← e]
  by_cases hz : m = cN s t.length i
  · rw [if_pos hz, hz]
    show e2 (sqD s t.length) i (cI s t.length i).toNat = _
    rw [hg.2.1]
    exact (md_InP (inP_md _)).symm
  · rw [if_neg hz, hg.2.2 m hm hz]; rfl
theorem wS_cg (h : isData s t = true) {i j : Nat} (hi : i < t.length) : Cg (wholeD s t.length * e2 s (cN s t.length i) j) (sumTo (fun m => qS s t.length i m * e2 s m j) t.length) := by
  have hc := (data_c h).1 i hi
  refine Eq.symm ((Cg.sum (g := fun m => (if m = cN s t.length i then wholeD s t.length else 0) * e2 s m j) fun m hm => Cg.mul (q_cg h hi hm) rfl).trans ?_)
  rw [sum_pick hc.1]
/-- Conjugate charges have the same dimension. -/
theorem dim_conj (h : isData s t = true) {i : Nat} (hi : i < t.length) : e2 s (cN s t.length i) 0 = e2 s i 0 := by
  obtain ⟨hs, hst, hw, -⟩ := isData_some h
  have h1 := hs.1
  have hm := hs.2.2.1
  obtain ⟨hc, hc0, hc1⟩ := data_c h
  have hW : InP (wholeD s t.length) := inP_md _
  refine Cg.eq (hm.inP (hc i hi).1 (by omega)) (hm.inP hi (by omega)) (Cg.cancel hW hw ((wS_cg h hi).trans ?_))
  rw [q_assoc]
  have e : Cg (sumTo (fun m => e2 s i m * qS s t.length m 0) t.length) (sumTo (fun m => (if m = 0 then wholeD s t.length else 0) * e2 s i m) t.length) := Cg.sum fun m hm' => by
    refine (Cg.mul rfl (q_cg h hm' (by omega))).trans ?_
    by_cases hz : m = 0
    · subst hz
      rw [if_pos hc0.symm, if_pos rfl, Int.mul_comm]
    · rw [if_neg (fun e => hz (hc1 m hm' e.symm)), if_neg hz, Int.mul_zero, Int.zero_mul]
  refine e.trans ?_
  rw [sum_pick (show 0 < t.length by omega)]
/-- The sum over all charges of what the conjugates have. -/
theorem conj_sum (h : isData s t = true) {l : Nat} (hl : l < t.length) : Cg (sumTo (fun k => e2 s (cN s t.length k) l * e2 s 0 k) t.length) (if l = 0 then wholeD s t.length else 0) := by
  obtain ⟨hs, hst, hw, -⟩ := isData_some h
  have h1 := hs.1
  have hm := hs.2.2.1
  obtain ⟨hc, hc0, hc1⟩ := data_c h
  have hW : InP (wholeD s t.length) := inP_md _
  refine Cg.cancel hW hw ?_
  have e1 : Cg (wholeD s t.length * sumTo (fun k => e2 s (cN s t.length k) l * e2 s 0 k) t.length) (sumTo (fun k => sumTo (fun m => e2 s 0 k * qS s t.length k m * e2 s m l) t.length) t.length) := by
    rw [← mul_sum]
    refine Cg.sum fun k hk => ?_
    have := Cg.mul (wS_cg h (j := l) hk) (Eq.refl (e2 s 0 k % 55441))
    rw [← sum_mul] at this
    rw [← Int.mul_assoc]
    refine this.trans (Cg.of (sum_congr fun m _ => ?_))
    rw [Int.mul_comm, Int.mul_assoc]
  have e2' : Cg (sumTo (fun m => sumTo (fun k => e2 s 0 k * qS s t.length k m * e2 s m l) t.length) t.length) (sumTo (fun m => wholeD s t.length * e2 s 0 m * e2 s m l) t.length) := Cg.sum fun m hm' => by
    rw [sum_mul, ← q_assoc]
    refine Cg.mul ?_ rfl
    have := wS_cg h (i := 0) (j := m) (by omega)
    rw [hc0] at this
    exact this.symm
  refine e1.trans ((Cg.of sum_comm).trans (e2'.trans ?_))
  have e3 : sumTo (fun m => wholeD s t.length * e2 s 0 m * e2 s m l) t.length = wholeD s t.length * qS s t.length 0 l := by
    unfold qS
    rw [← mul_sum]
    exact sum_congr fun m _ => Int.mul_assoc _ _ _
  rw [e3]
  refine Cg.mul rfl ?_
  have := q_cg h (i := 0) (m := l) (by omega) hl
  rw [hc0] at this
  exact this
theorem cL_cN {k : Nat} (hk : k < t.length) : ((cL s t.length).getD k 0).toNat = cN s t.length k := by rw [cL_get hk]; rfl
/-- Dimensions multiply. -/
theorem dims_mul (h : isData s t = true) {i j : Nat} (hi : i < t.length) (hj : j < t.length) : Cg (sumTo (fun k => numV s t.length (cL s t.length) i j k * e2 s 0 k) t.length) (e2 s 0 i * e2 s 0 j) := by
  obtain ⟨hs, hst, hw, -⟩ := isData_some h
  have h1 := hs.1
  have hW : InP (wholeD s t.length) := inP_md _
  have e1 : Cg (sumTo (fun k => numV s t.length (cL s t.length) i j k * e2 s 0 k) t.length) (sumTo (fun k => sumTo (fun l => inv (wholeD s t.length) * (e2 s i l * e2 s j l * inv (e2 s 0 l)) * (e2 s (cN s t.length k) l * e2 s 0 k)) t.length) t.length) := Cg.sum fun k hk => by
    refine (Cg.mul (Cg.md _) rfl).trans (Cg.of ?_)
    rw [← sum_mul, ← sum_mul]
    refine sum_congr fun l _ => ?_
    unfold nG
    rw [cL_cN hk]
    simp only [Int.mul_assoc, Int.mul_comm, Int.mul_left_comm]
  refine e1.trans ?_
  rw [sum_comm]
  have e2' : Cg (sumTo (fun l => sumTo (fun k => inv (wholeD s t.length) * (e2 s i l * e2 s j l * inv (e2 s 0 l)) * (e2 s (cN s t.length k) l * e2 s 0 k)) t.length) t.length) (sumTo (fun l => (if l = 0 then wholeD s t.length else 0) * (inv (wholeD s t.length) * (e2 s i l * e2 s j l * inv (e2 s 0 l)))) t.length) := Cg.sum fun l hl => by
    rw [mul_sum, Int.mul_comm]
    exact Cg.mul (conj_sum h hl) rfl
  refine e2'.trans ?_
  rw [sum_pick (show 0 < t.length by omega), ← Int.mul_assoc]
  refine (Cg.mul (a' := 1) (show Cg (wholeD s t.length * inv (wholeD s t.length)) 1 from mul_inv hW hw) rfl).trans ?_
  have h00 : e2 s 0 0 = 1 := hst.2.1
  have hi1 : inv (1 : Int) = 1 := by
    have := mul_inv (x := 1) inP_one (by decide)
    rw [Int.one_mul] at this
    rw [← md_InP (inv_InP inP_one)]
    exact this
  rw [h00, hi1, Int.mul_one, Int.one_mul, hst.1 i hi 0 (by omega), hst.1 j hj 0 (by omega)]
/-- The number at 0 of a charge and its conjugate. -/
theorem num_conj (h : isData s t = true) {i : Nat} (hi : i < t.length) : numV s t.length (cL s t.length) i (cN s t.length i) 0 = 1 := by
  obtain ⟨hs, hst, hw, -⟩ := isData_some h
  have h1 := hs.1
  have hm := hs.2.2.1
  obtain ⟨hc, hc0, hc1⟩ := data_c h
  have hW : InP (wholeD s t.length) := inP_md _
  refine Cg.eq (numV_InP ..) inP_one ((Cg.md _).trans ?_)
  have e1 : Cg (sumTo (nG s t.length (cL s t.length) i (cN s t.length i) 0) t.length) (wholeD s t.length) := by
    have h2 := q_cg h hi (hc i hi).1
    rw [if_pos rfl] at h2
    refine Eq.trans (Cg.sum fun l hl => ?_) h2
    unfold nG
    rw [cL_cN (by omega), hc0, hst.1 _ (hc i hi).1 l hl]
    have h3 : Cg (e2 s 0 l * inv (e2 s 0 l)) 1 := mul_inv (hm.inP (by omega) hl) (hst.2.2.2.1 l hl)
    have h4 := Cg.mul (Eq.refl ((e2 s i l * e2 s l (cN s t.length i)) % 55441)) h3
    rw [Int.mul_one] at h4
    refine Eq.trans (Cg.of ?_) h4
    simp only [Int.mul_assoc, Int.mul_comm, Int.mul_left_comm]
  exact (Cg.mul e1 rfl).trans (mul_inv hW hw)
/-- A charge whose product with its conjugate is one label alone has a dimension whose square is 1. -/
theorem inv_dim (h : isData s t = true) {i : Nat} (hi : i < t.length) (hs1 : sumTo (numV s t.length (cL s t.length) i (cN s t.length i)) t.length = 1) : e2 s 0 i * e2 s 0 i % 55441 = 1 := by
  obtain ⟨hs, hst, hw, -⟩ := isData_some h
  have h1 := hs.1
  obtain ⟨hc, hc0, hc1⟩ := data_c h
  have h0 := num_conj h hi
  have hz : ∀ k, k < t.length → k ≠ 0 → numV s t.length (cL s t.length) i (cN s t.length i) k = 0 := fun k hk hk0 => by
    have hp := fun x => numV_InP s t.length (cL s t.length) i (cN s t.length i) x
    have key : ∀ m, numV s t.length (cL s t.length) i (cN s t.length i) 0 * (if 0 < m then 1 else 0) + numV s t.length (cL s t.length) i (cN s t.length i) k * (if k < m then 1 else 0) ≤ sumTo (numV s t.length (cL s t.length) i (cN s t.length i)) m := by
      intro m
      induction m with
      | zero => simp [sumTo]
      | succ m ih =>
        simp only [sumTo]
        have p0 := (hp m).1
        have pk := (hp k).1
        by_cases e0 : m = 0
        · subst e0
          rw [if_neg (by omega), if_neg (by omega)] at ih
          rw [if_pos (by omega), if_neg (by omega)]
          omega
        · by_cases ek : m = k
          · subst ek
            rw [if_pos (by omega), if_neg (by omega)] at ih
            rw [if_pos (by omega), if_pos (by omega)]
            omega
          · by_cases hlt : k < m
            · rw [if_pos (by omega), if_pos hlt] at ih
              rw [if_pos (by omega), if_pos (by omega)]
              omega
            · rw [if_pos (by omega), if_neg hlt] at ih
              rw [if_pos (by omega), if_neg (by omega)]
              omega
    have := key t.length
    rw [if_pos (by omega), if_pos hk, hs1, h0] at this
    have pk := (hp k).1
    omega
  have hd := dims_mul h hi (hc i hi).1
  have e : sumTo (fun k => numV s t.length (cL s t.length) i (cN s t.length i) k * e2 s 0 k) t.length = 1 := by
    have e1 : sumTo (fun k => numV s t.length (cL s t.length) i (cN s t.length i) k * e2 s 0 k) t.length = sumTo (fun k => (if k = 0 then 1 else 0) * e2 s 0 k) t.length := sum_congr fun k hk => by
      by_cases hk0 : k = 0
      · subst hk0; rw [h0, if_pos rfl]
      · rw [hz k hk hk0, if_neg hk0]
    rw [e1, sum_pick (show 0 < t.length by omega), hst.2.1]; rfl
  rw [e, hst.1 0 (by omega) _ (hc i hi).1, dim_conj h hi, hst.1 i hi 0 (by omega)] at hd
  exact hd.symm
end
end Go.Pl
