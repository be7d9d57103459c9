import Derived.Laws.FloatArith
set_option linter.unusedSimpArgs false
set_option linter.unusedVariables false
namespace Go.Fl
open Ieee
def fv (b : Nat) : Nat := if b < 4503599627370496 then b else (4503599627370496 + b % 4503599627370496) * 2 ^ (b / 4503599627370496 - 1)
def FinW (b : Nat) : Prop := b < 9218868437227405312
theorem read_ex {b : Nat} (h : FinW b) : ∃ m k : Nat, double.read b = .number false m (-1074 + (k : Int)) ∧ fv b = m * 2 ^ k ∧ m < 9007199254740992 := by
 unfold FinW at h
 have e1 : double.signWeight = 9223372036854775808 := by decide
 have e2 : double.binade = 4503599627370496 := by decide
 have e3 : double.infRung = 9218868437227405312 := by decide
 have e4 : double.leastPlace = -1074 := by decide
 have h1 : b / double.signWeight = 0 := by rw [e1]; omega
 have h2 : b % double.signWeight = b := by rw [e1]; omega
 unfold Format.read
 simp only [h1, h2, e2, e3, e4]
 by_cases hb : b < 4503599627370496
 ·rw [if_pos hb]
  exact ⟨b, 0, rfl, by simp [fv, hb], by omega⟩
 ·rw [if_neg hb, if_pos h]
  exact ⟨4503599627370496 + b % 4503599627370496, b / 4503599627370496 - 1, rfl, by simp [fv, hb], by omega⟩
theorem log2_mul_pow {m : Nat} (hm : m ≠ 0) (k : Nat) : (m * 2 ^ k).log2 = m.log2 + k := by
 have hp : 0 < 2 ^ k := Nat.two_pow_pos k
 have hne : m * 2 ^ k ≠ 0 := Nat.mul_ne_zero hm (by omega)
 apply Nat.le_antisymm
 ·have : (m * 2 ^ k).log2 < m.log2 + k + 1 := by
   rw [Nat.log2_lt hne, Nat.add_right_comm, Nat.pow_add]
   exact Nat.mul_lt_mul_of_pos_right Nat.lt_log2_self hp
  omega
 ·rw [Nat.le_log2 hne, Nat.pow_add]
  exact Nat.mul_le_mul_right _ (Nat.log2_self_le hm)
def rne (N s : Nat) : Nat := N / 2 ^ s + (if 2 ^ s < 2 * (N % 2 ^ s) ∨ (2 ^ s = 2 * (N % 2 ^ s) ∧ N / 2 ^ s % 2 = 1) then 1 else 0)
def rdw (N : Nat) : Nat := if N = 0 then 0 else min ((N.log2 - 52) * 4503599627370496 + rne N (N.log2 - 52)) 9218868437227405312
theorem half_bool (p r q : Nat) : (decide (p < 2 * r) || (p == 2 * r && q % 2 == 1)).toNat = if p < 2 * r ∨ (p = 2 * r ∧ q % 2 = 1) then 1 else 0 := by
 by_cases h1 : p < 2 * r
 ·rw [if_pos (.inl h1), decide_eq_true h1]; rfl
 ·rw [decide_eq_false h1, Bool.false_or]
  by_cases h2 : p = 2 * r ∧ q % 2 = 1
  ·rw [if_pos (.inr h2)]
   have a : (p == 2 * r) = true := beq_iff_eq.2 h2.1
   have b : (q % 2 == 1) = true := beq_iff_eq.2 h2.2
   rw [a, b]; rfl
  ·rw [if_neg (fun h => h.elim h1 h2)]
   cases hq : (p == 2 * r && q % 2 == 1) with
   | false => rfl
   | true =>
    rw [Bool.and_eq_true, beq_iff_eq, beq_iff_eq] at hq
    exact absurd hq h2
theorem cut_even (n drop : Nat) (h : drop ≤ n.log2 + 2) : Toward.even.cut false n drop = rne n drop := by
 unfold Toward.cut rne
 rw [Nat.min_eq_left h, Nat.one_shiftLeft]
 exact congrArg (n / 2 ^ drop + ·) (half_bool _ _ _)
theorem rne_pow (m k s : Nat) : rne (m * 2 ^ k) s = if k ≤ s then rne m (s - k) else m * 2 ^ (k - s) := by
 by_cases h : k ≤ s
 ·rw [if_pos h]
  obtain ⟨d, rfl⟩ : ∃ d, s = k + d := ⟨s - k, by omega⟩
  have hp : 0 < 2 ^ k := Nat.two_pow_pos k
  rw [Nat.add_sub_cancel_left]
  unfold rne
  have e1 : m * 2 ^ k / 2 ^ (k + d) = m / 2 ^ d := by
   rw [Nat.pow_add, Nat.mul_comm m, Nat.mul_div_mul_left _ _ hp]
  have e2 : m * 2 ^ k % 2 ^ (k + d) = 2 ^ k * (m % 2 ^ d) := by
   rw [Nat.pow_add, Nat.mul_comm m, Nat.mul_mod_mul_left]
  have e3 : (2 ^ (k + d) < 2 * (2 ^ k * (m % 2 ^ d))) ↔ 2 ^ d < 2 * (m % 2 ^ d) := by
   rw [Nat.pow_add, Nat.mul_left_comm]
   exact Nat.mul_lt_mul_left hp
  have e4 : (2 ^ (k + d) = 2 * (2 ^ k * (m % 2 ^ d))) ↔ 2 ^ d = 2 * (m % 2 ^ d) := by
   rw [Nat.pow_add, Nat.mul_left_comm]
   exact Nat.mul_right_inj (by omega)
  rw [e1, e2]
  simp only [e3, e4]
 ·rw [if_neg h]
  obtain ⟨d, rfl⟩ : ∃ d, k = s + d := ⟨k - s, by omega⟩
  have hp : 0 < 2 ^ s := Nat.two_pow_pos s
  have e0 : m * 2 ^ (s + d) = (m * 2 ^ d) * 2 ^ s := by rw [Nat.pow_add, Nat.mul_comm (2 ^ s), Nat.mul_assoc]
  rw [Nat.add_sub_cancel_left]
  unfold rne
  rw [e0, Nat.mul_div_cancel _ hp, Nat.mul_mod_left]
  have : ¬ (2 ^ s < 2 * 0 ∨ 2 ^ s = 2 * 0 ∧ m * 2 ^ d % 2 = 1) := by omega
  rw [if_neg this, Nat.add_zero]
theorem nearest_eq (m k : Nat) : double.nearest false m (-1074 + (k : Int)) = rdw (m * 2 ^ k) := by
 have e2 : double.binade = 4503599627370496 := by decide
 have e3 : double.infRung = 9218868437227405312 := by decide
 have e4 : double.leastPlace = -1074 := by decide
 have e5 : (double.fractionBits : Int) = 52 := by decide
 unfold Format.nearest rdw
 by_cases hm : m = 0
 ·subst hm; simp [Format.word]
 have hne : m * 2 ^ k ≠ 0 := Nat.mul_ne_zero hm (by have := Nat.two_pow_pos k; omega)
 rw [if_neg hm, if_neg hne, log2_mul_pow hm]
 simp only [e2, e3, e4, e5, Format.word]
 have hs : max (-1074 + (k : Int) + (m.log2 : Int) - 52) (-1074) = -1074 + ((m.log2 + k - 52 : Nat) : Int) := by omega
 rw [hs]
 have h1 : (-1074 + ((m.log2 + k - 52 : Nat) : Int) - -1074).toNat = m.log2 + k - 52 := by omega
 have h2 : (-1074 + (k : Int) - (-1074 + ((m.log2 + k - 52 : Nat) : Int))).toNat = k - (m.log2 + k - 52) := by omega
 have h3 : (-1074 + ((m.log2 + k - 52 : Nat) : Int) - (-1074 + (k : Int))).toNat = (m.log2 + k - 52) - k := by omega
 rw [h1, h2, h3, Nat.shiftLeft_eq]
 rw [rne_pow]
 by_cases hks : k ≤ m.log2 + k - 52
 ·rw [if_pos hks, show k - (m.log2 + k - 52) = 0 by omega, Nat.pow_zero, Nat.mul_one, cut_even _ _ (by omega)]
  simp
 ·rw [if_neg hks, show m.log2 + k - 52 - k = 0 by omega]
  have : Toward.even.cut false (m * 2 ^ (k - (m.log2 + k - 52))) 0 = m * 2 ^ (k - (m.log2 + k - 52)) := by
   rw [cut_even _ _ (Nat.zero_le _)]
   simp [rne, Nat.mod_one]
  rw [this]
  simp
theorem rne_lo (N s : Nat) : 2 * N ≤ 2 * (rne N s * 2 ^ s) + 2 ^ s := by
 unfold rne
 have h := Nat.div_add_mod N (2 ^ s)
 have hlt := Nat.mod_lt N (Nat.two_pow_pos s)
 have hp := Nat.two_pow_pos s
 generalize 2 ^ s = p at *
 generalize N / p = q at *
 generalize N % p = r at *
 subst h
 rw [Nat.add_mul, Nat.mul_comm p q]
 split
 ·omega
 ·rename_i hn
  simp only [not_or] at hn
  omega
theorem rne_hi (N s : Nat) : 2 * (rne N s * 2 ^ s) ≤ 2 * N + 2 ^ s := by
 unfold rne
 have h := Nat.div_add_mod N (2 ^ s)
 have hlt := Nat.mod_lt N (Nat.two_pow_pos s)
 have hp := Nat.two_pow_pos s
 generalize 2 ^ s = p at *
 generalize N / p = q at *
 generalize N % p = r at *
 subst h
 rw [Nat.add_mul, Nat.mul_comm p q]
 split
 ·rename_i hn
  have : p ≤ 2 * r := by rcases hn with hn | hn <;> omega
  omega
 ·omega
theorem fv_rdw {N : Nat} (h : N.log2 ≤ 2096) : FinW (rdw N) ∧ fv (rdw N) = (if N.log2 < 52 then N else rne N (N.log2 - 52) * 2 ^ (N.log2 - 52)) := by
 unfold FinW rdw
 by_cases h0 : N = 0
 ·subst h0; simp [fv]
 rw [if_neg h0]
 by_cases hl : N.log2 < 52
 ·rw [if_pos hl, show N.log2 - 52 = 0 by omega]
  have hN : N < 4503599627370496 := by rw [Nat.log2_lt h0] at hl; simpa using hl
  have : rne N 0 = N := by simp [rne, Nat.mod_one]
  rw [this, Nat.zero_mul, Nat.zero_add, Nat.min_eq_left (by omega)]
  exact ⟨by omega, by simp [fv, hN]⟩
 ·rw [if_neg hl]
  obtain ⟨s, hs⟩ : ∃ s, N.log2 = s + 52 := ⟨N.log2 - 52, by omega⟩
  rw [hs, Nat.add_sub_cancel]
  have hp := Nat.two_pow_pos s
  have l1 : 4503599627370496 * 2 ^ s ≤ N := by
   have := Nat.log2_self_le h0
   rw [hs, Nat.pow_add, Nat.mul_comm] at this
   exact this
  have l2 : N < 9007199254740992 * 2 ^ s := by
   have := @Nat.lt_log2_self N
   rw [hs, Nat.add_assoc, Nat.pow_add, Nat.mul_comm] at this
   exact this
  have r1 : 4503599627370496 ≤ rne N s := by
   unfold rne
   have : 4503599627370496 ≤ N / 2 ^ s := (Nat.le_div_iff_mul_le hp).2 l1
   omega
  have r2 : rne N s ≤ 9007199254740992 := by
   unfold rne
   have : N / 2 ^ s < 9007199254740992 := (Nat.div_lt_iff_lt_mul hp).2 l2
   split <;> omega
  generalize rne N s = r at *
  have hlt : s * 4503599627370496 + r < 9218868437227405312 := by omega
  rw [Nat.min_eq_left (by omega)]
  refine ⟨hlt, ?_⟩
  unfold fv
  rw [if_neg (by omega)]
  by_cases hr : r = 9007199254740992
  ·subst hr
   have e1 : (s * 4503599627370496 + 9007199254740992) / 4503599627370496 = s + 2 := by omega
   have e2 : (s * 4503599627370496 + 9007199254740992) % 4503599627370496 = 0 := by omega
   rw [e1, e2, show s + 2 - 1 = s + 1 by omega, Nat.pow_succ]
   omega
  ·have e1 : (s * 4503599627370496 + r) / 4503599627370496 = s + 1 := by omega
   have e2 : (s * 4503599627370496 + r) % 4503599627370496 = r - 4503599627370496 := by omega
   rw [e1, e2, Nat.add_sub_cancel, show 4503599627370496 + (r - 4503599627370496) = r by omega]
theorem rd_hi {N : Nat} (h : N.log2 ≤ 2096) : fv (rdw N) * 9007199254740992 ≤ N * 9007199254740993 := by
 rw [(fv_rdw h).2]
 split
 ·omega
 ·rename_i hl
  have h0 : N ≠ 0 := fun e => by subst e; simp at hl
  obtain ⟨s, hs⟩ : ∃ s, N.log2 = s + 52 := ⟨N.log2 - 52, by omega⟩
  rw [hs, Nat.add_sub_cancel]
  have l1 : 4503599627370496 * 2 ^ s ≤ N := by
   have := Nat.log2_self_le h0
   rw [hs, Nat.pow_add, Nat.mul_comm] at this
   exact this
  have := rne_hi N s
  generalize rne N s * 2 ^ s = x at *
  generalize 2 ^ s = p at *
  omega
theorem rd_lo {N : Nat} (h : N.log2 ≤ 2096) : N * 9007199254740992 ≤ fv (rdw N) * 9007199254740993 + N := by
 rw [(fv_rdw h).2]
 split
 ·omega
 ·rename_i hl
  have h0 : N ≠ 0 := fun e => by subst e; simp at hl
  obtain ⟨s, hs⟩ : ∃ s, N.log2 = s + 52 := ⟨N.log2 - 52, by omega⟩
  rw [hs, Nat.add_sub_cancel]
  have l1 : 4503599627370496 * 2 ^ s ≤ N := by
   have := Nat.log2_self_le h0
   rw [hs, Nat.pow_add, Nat.mul_comm] at this
   exact this
  have := rne_lo N s
  generalize rne N s * 2 ^ s = x at *
  generalize 2 ^ s = p at *
  omega
theorem rd_exact {m k : Nat} (hm : m < 9007199254740992) (h : (m * 2 ^ k).log2 ≤ 2096) : fv (rdw (m * 2 ^ k)) = m * 2 ^ k := by
 rw [(fv_rdw h).2]
 by_cases h0 : m = 0
 ·subst h0; simp
 split
 ·rfl
 ·rename_i hl
  rw [log2_mul_pow h0] at hl ⊢
  have hm' : m.log2 < 53 := (Nat.log2_lt h0).2 hm
  rw [rne_pow]
  by_cases hk : k ≤ m.log2 + k - 52
  ·rw [if_pos hk]
   have e : m.log2 + k - 52 - k = 0 := by omega
   have e2 : m.log2 + k - 52 = k := by omega
   rw [e, e2]
   simp [rne, Nat.mod_one]
  ·rw [if_neg hk, Nat.mul_assoc, ← Nat.pow_add]
   congr 2
   omega
end Go.Fl
namespace Go.Fl
open Ieee
theorem log2_lt_of {N k : Nat} (h : N < 2 ^ (k + 1)) : N.log2 ≤ k := by
 by_cases h0 : N = 0
 ·subst h0; simp
 ·have := (Nat.log2_lt h0).2 h
  omega
theorem log2_le_of {N a k : Nat} (h : N < 2 ^ a) (hk : a ≤ k + 1) : N.log2 ≤ k := log2_lt_of (Nat.lt_of_lt_of_le h (Nat.pow_le_pow_right (by decide) hk))
theorem scale {x y p a b : Nat} (h : x * a ≤ y * b) : (x * p) * a ≤ (y * p) * b := by
 rw [Nat.mul_right_comm, Nat.mul_right_comm y]
 exact Nat.mul_le_mul_right _ h
theorem log2_ge_of {N k : Nat} (h : 2 ^ k ≤ N) : k ≤ N.log2 := by
 have h0 : N ≠ 0 := fun e => by subst e; have := Nat.two_pow_pos k; omega
 exact (Nat.le_log2 h0).2 h
theorem sh_nn (m k : Nat) : signed false m k = ((m * 2 ^ k : Nat) : Int) := by simp [signed, Nat.shiftLeft_eq]
theorem add_fv {a b : Nat} (ha : FinW a) (hb : FinW b) : floatBits .add .f64 a b = some (rdw (fv a + fv b)) := by
 obtain ⟨m, k, h1, h2, -⟩ := read_ex ha
 obtain ⟨n, l, h3, h4, -⟩ := read_ex hb
 show (Datum.sum (double.read a) (double.read b)).map double.write = _
 rw [h1, h3]
 unfold Datum.sum
 simp only [Option.map_some, Option.some.injEq]
 have hmin : min (-1074 + (k : Int)) (-1074 + (l : Int)) = -1074 + ((min k l : Nat) : Int) := by omega
 rw [hmin]
 have e1 : (-1074 + (k : Int) - (-1074 + ((min k l : Nat) : Int))).toNat = k - min k l := by omega
 have e2 : (-1074 + (l : Int) - (-1074 + ((min k l : Nat) : Int))).toNat = l - min k l := by omega
 rw [e1, e2, sh_nn, sh_nn]
 have e3 : (((m * 2 ^ (k - min k l) : Nat) : Int) + ((n * 2 ^ (l - min k l) : Nat) : Int)).natAbs = m * 2 ^ (k - min k l) + n * 2 ^ (l - min k l) := by omega
 have e4 : (if ((m * 2 ^ (k - min k l) : Nat) : Int) + ((n * 2 ^ (l - min k l) : Nat) : Int) = 0 then (false && false) else decide (((m * 2 ^ (k - min k l) : Nat) : Int) + ((n * 2 ^ (l - min k l) : Nat) : Int) < 0)) = false := by
  split
  ·rfl
  ·exact decide_eq_false (by omega)
 rw [e3, e4]
 unfold Format.write
 simp only
 rw [nearest_eq]
 congr 1
 rw [Nat.add_mul, Nat.mul_assoc, Nat.mul_assoc, ← Nat.pow_add, ← Nat.pow_add, Nat.sub_add_cancel (Nat.min_le_left k l), Nat.sub_add_cancel (Nat.min_le_right k l), h2, h4]
def bias : Nat := 1074
theorem bias_eq : bias = 1074 := rfl
theorem foi_eq (n : Nat) : floatOfInt .f64 (n : Int) = rdw (n * 2 ^ bias) := by
 show double.write (.number (decide ((n : Int) < 0)) (n : Int).natAbs 0) = _
 rw [decide_eq_false (by omega), Int.natAbs_natCast]
 unfold Format.write
 simp only
 rw [← nearest_eq]
 rfl
theorem pow_lt_of {m a b : Nat} (h : m < 2 ^ a) : m * 2 ^ b < 2 ^ (a + b) := by
 rw [Nat.pow_add]
 exact Nat.mul_lt_mul_of_pos_right h (Nat.two_pow_pos _)
theorem pow_mono {a b : Nat} (h : a ≤ b) : 2 ^ a ≤ 2 ^ b := Nat.pow_le_pow_right (by decide) h
theorem foi_log {n : Nat} (hn : n < 9007199254740992) : (n * 2 ^ bias).log2 ≤ 2096 := by
 have : n * 2 ^ bias < 2 ^ (53 + bias) := pow_lt_of hn
 exact log2_le_of this (by rw [bias_eq]; omega)
theorem foi_fv {n : Nat} (hn : n < 9007199254740992) : FinW (floatOfInt .f64 (n : Int)) ∧ fv (floatOfInt .f64 (n : Int)) = n * 2 ^ bias := by
 rw [foi_eq]
 exact ⟨(fv_rdw (foi_log hn)).1, rd_exact hn (foi_log hn)⟩
theorem read_place {m k t : Nat} (hm : m < 9007199254740992) (ht : 2 ^ (t + 53) ≤ m * 2 ^ k) : t ≤ k := by
 refine Nat.le_of_lt_succ (Nat.lt_of_not_ge fun hk => ?_)
 have h1 : m * 2 ^ k < 2 ^ (53 + k) := pow_lt_of hm
 have h2 : 2 ^ (53 + k) ≤ 2 ^ (t + 53) := pow_mono (by omega)
 omega
theorem ac4 (a b c d : Nat) : a * b * (c * d) = (a * c) * (b * d) := by ac_rfl
theorem ac3 (a b c : Nat) : a * b * c = a * c * b := by ac_rfl
theorem ac5 (a b c d : Nat) : a * (b * c * d) = c * (a * b) * d := by ac_rfl
theorem q_key {x y n r st : Nat} (big : 2 ^ 53 * n ≤ x) (_hs0 : y ≤ n) (hr : r < n) (h0 : st = 0 → r = 0 ∧ y = 0) (h1 : st = 1 → y = n) (hs : st = 0 ∨ st = 1) :
  (2 * x + y) * 18014398509481984 ≤ 2 * (x + r) * 18014398509481985 ∧ 2 * (x + r) * 18014398509481984 ≤ (2 * x + y) * 18014398509481985 := by
 rcases hs with e | e
 ·have := h0 e; omega
 ·have := h1 e; omega
theorem mul_fv {n b : Nat} (hn : n < 9007199254740992) (hb : FinW b) (hl : 2 ^ 106 ≤ fv b) : floatBits .mul .f64 (floatOfInt .f64 (n : Int)) b = some (rdw (n * fv b)) := by
 obtain ⟨ha, hf⟩ := foi_fv hn
 obtain ⟨m, k, h1, h2, hm⟩ := read_ex ha
 obtain ⟨m', l, h3, h4, hm'⟩ := read_ex hb
 show (Datum.product (double.read _) (double.read b)).map double.write = _
 rw [h1, h3]
 unfold Datum.product
 simp only [Option.map_some, Option.some.injEq, Bool.xor_self]
 unfold Format.write
 simp only
 rw [hf] at h2
 by_cases h0 : n = 0
 ·subst h0
  have hz : m = 0 := by
   rw [Nat.zero_mul] at h2
   rcases Nat.mul_eq_zero.1 h2.symm with h | h
   ·exact h
   ·have := Nat.two_pow_pos k; omega
  subst hz
  simp [Format.nearest, Format.word, rdw]
 ·have hk : 1021 ≤ k := by
   refine read_place hm ?_
   rw [← h2]
   have h5 : 1 * 2 ^ bias ≤ n * 2 ^ bias := Nat.mul_le_mul_right _ (by omega)
   rw [Nat.one_mul] at h5
   rw [show 1021 + 53 = bias from rfl]
   exact h5
  have hl2 : 53 ≤ l := by
   refine read_place hm' ?_
   rw [← h4]
   exact hl
  have e1 : -1074 + (k : Int) + (-1074 + (l : Int)) = -1074 + ((k + l - 1074 : Nat) : Int) := by omega
  rw [e1, nearest_eq]
  refine congrArg rdw ?_
  refine Nat.eq_of_mul_eq_mul_right (Nat.two_pow_pos bias) ?_
  rw [Nat.mul_assoc (m * m'), ← Nat.pow_add, show k + l - 1074 + bias = k + l by rw [bias_eq]; omega, Nat.pow_add]
  rw [show m * m' * (2 ^ k * 2 ^ l) = (m * 2 ^ k) * (m' * 2 ^ l) from ac4 .., ← h2, ← h4]
  exact ac3 ..
def lowE : Nat := 1000
def topE : Nat := 1200
theorem quo_fv {a b : Nat} (ha : FinW a) (hb : FinW b) (a1 : 2 ^ lowE ≤ fv a) (a2 : fv a < 2 ^ topE) (b1 : 2 ^ lowE ≤ fv b) (b2 : fv b < 2 ^ topE) :
  ∃ N, floatBits .quo .f64 a b = some (rdw N) ∧ N.log2 ≤ 2096 ∧ N * fv b * 18014398509481984 ≤ (fv a * 2 ^ bias) * 18014398509481985 ∧ (fv a * 2 ^ bias) * 18014398509481984 ≤ N * fv b * 18014398509481985 := by
 obtain ⟨m, k, h1, h2, hm⟩ := read_ex ha
 obtain ⟨n, l, h3, h4, hn⟩ := read_ex hb
 have ef : double.fractionBits + 2 = 54 := by decide
 rw [h2] at a1 a2 ⊢
 rw [h4] at b1 b2 ⊢
 have hm0 : m ≠ 0 := fun e => by subst e; have := Nat.two_pow_pos lowE; rw [Nat.zero_mul] at a1; omega
 have hn0 : n ≠ 0 := fun e => by subst e; have := Nat.two_pow_pos lowE; rw [Nat.zero_mul] at b1; omega
 have la1 := log2_ge_of a1
 have la2 := log2_le_of (k := topE) a2 (by omega)
 have lb1 := log2_ge_of b1
 have lb2 := log2_le_of (k := topE) b2 (by omega)
 rw [log2_mul_pow hm0] at la1 la2
 rw [log2_mul_pow hn0] at lb1 lb2
 rw [show lowE = 1000 from rfl] at la1 lb1
 rw [show topE = 1200 from rfl] at la2 lb2
 have lm : m.log2 ≤ 52 := log2_lt_of hm
 have ln : n.log2 ≤ 52 := log2_lt_of hn
 have hdiv : floatBits .quo .f64 a b = ((Datum.number false m (-1074 + (k : Int))).quotient 54 (.number false n (-1074 + (l : Int)))).map double.write := by
  show (Datum.quotient (double.fractionBits + 2) (double.read a) (double.read b)).map double.write = _
  rw [h1, h3, ef]
 rw [hdiv]
 unfold Datum.quotient
 simp only [if_neg hn0, Option.map_some, Option.some.injEq, Bool.xor_self]
 generalize hmore : 54 + n.log2 - m.log2 = more
 rw [Nat.shiftLeft_eq]
 have hx1 : 2 ^ 53 * n ≤ m * 2 ^ more := by
  have q1 : 2 ^ m.log2 ≤ m := Nat.log2_self_le hm0
  have q2 : n < 2 ^ (n.log2 + 1) := Nat.lt_log2_self
  have q3 : 2 ^ (m.log2 + more) ≤ m * 2 ^ more := by rw [Nat.pow_add]; exact Nat.mul_le_mul_right _ q1
  have q4 : 2 ^ 53 * n ≤ 2 ^ 53 * 2 ^ (n.log2 + 1) := Nat.mul_le_mul_left _ (Nat.le_of_lt q2)
  rw [← Nat.pow_add] at q4
  have q5 : 2 ^ (53 + (n.log2 + 1)) ≤ 2 ^ (m.log2 + more) := pow_mono (by omega)
  omega
 have hq := Nat.div_add_mod (m * 2 ^ more) n
 have hr := Nat.mod_lt (m * 2 ^ more) (Nat.pos_of_ne_zero hn0)
 have hq53 : 2 ^ 53 ≤ m * 2 ^ more / n := (Nat.le_div_iff_mul_le (Nat.pos_of_ne_zero hn0)).2 hx1
 have hx2 : m * 2 ^ more / n < 2 ^ 56 := by
  rw [Nat.div_lt_iff_lt_mul (Nat.pos_of_ne_zero hn0)]
  have q1 : m < 2 ^ (m.log2 + 1) := Nat.lt_log2_self
  have q2 : 2 ^ n.log2 ≤ n := Nat.log2_self_le hn0
  have q3 : m * 2 ^ more < 2 ^ (m.log2 + 1 + more) := pow_lt_of q1
  have q4 : 2 ^ 56 * 2 ^ n.log2 ≤ 2 ^ 56 * n := Nat.mul_le_mul_left _ q2
  rw [← Nat.pow_add] at q4
  have q5 : 2 ^ (m.log2 + 1 + more) ≤ 2 ^ (56 + n.log2) := pow_mono (by omega)
  omega
 have hst : ((m * 2 ^ more % n != 0).toNat = 0 ∧ m * 2 ^ more % n = 0) ∨ ((m * 2 ^ more % n != 0).toNat = 1 ∧ 0 < m * 2 ^ more % n) := by
  by_cases hz : m * 2 ^ more % n = 0
  ·left; simp [hz]
  ·right; exact ⟨by simp [bne, hz], by omega⟩
 generalize (m * 2 ^ more % n != 0).toNat = st at hst
 have hpl : -1074 + (k : Int) - (-1074 + (l : Int)) - (more : Int) - 1 = -1074 + ((1074 + k - l - more - 1 : Nat) : Int) := by omega
 unfold Format.write
 simp only
 rw [hpl, nearest_eq]
 generalize hK : 1074 + k - l - more - 1 = K
 refine ⟨_, rfl, ?_, ?_⟩
 ·have hb : 2 * (m * 2 ^ more / n) + st < 2 ^ 58 := by omega
  exact log2_le_of (pow_lt_of (b := K) hb) (by omega)
 ·have e1 : m * 2 ^ k * 2 ^ bias = 2 * (m * 2 ^ more) * 2 ^ (K + l) := by
   have : 2 ^ k * 2 ^ bias = 2 ^ more * 2 * 2 ^ (K + l) := by
    rw [← Nat.pow_add, ← Nat.pow_succ, ← Nat.pow_add]
    congr 1
    rw [bias_eq]
    omega
   rw [Nat.mul_assoc, this]
   exact ac5 ..
  have e2 : (2 * (m * 2 ^ more / n) + st) * 2 ^ K * (n * 2 ^ l) = (2 * (m * 2 ^ more / n) + st) * n * 2 ^ (K + l) := by
   rw [Nat.pow_add]
   exact ac4 ..
  rw [e1, e2]
  generalize m * 2 ^ more / n = q at *
  generalize m * 2 ^ more % n = r at *
  rw [← hq]
  have e3 : (2 * q + st) * n = 2 * (n * q) + st * n := by rw [Nat.add_mul, Nat.mul_assoc, Nat.mul_comm q n]
  rw [e3]
  have big : 2 ^ 53 * n ≤ n * q := by rw [Nat.mul_comm]; exact Nat.mul_le_mul_left _ hq53
  have hs : st * n ≤ n ∧ (st = 0 → r = 0 ∧ st * n = 0) ∧ (st = 1 → st * n = n) := by
   rcases hst with ⟨rfl, h⟩ | ⟨rfl, h⟩
   ·exact ⟨by omega, fun _ => ⟨h, by omega⟩, fun h => by omega⟩
   ·exact ⟨by omega, fun h => by omega, fun _ => by omega⟩
  have hs1 : st = 0 ∨ st = 1 := hst.elim (fun h => .inl h.1) (fun h => .inr h.1)
  obtain ⟨key1, key2⟩ := q_key big hs.1 hr hs.2.1 hs.2.2 hs1
  exact ⟨scale key1, scale key2⟩
end Go.Fl
namespace Go.Fl
open Ieee
def fA (a b : Nat) : Nat := (floatBits .add .f64 a b).getD 0
def fM (a b : Nat) : Nat := (floatBits .mul .f64 a b).getD 0
def fQ (a b : Nat) : Nat := (floatBits .quo .f64 a b).getD 0
def fX (p q : Nat) : Nat := match FloatKind.f64.format.order p q with
 | some .lt => q
 | some .eq => if (FloatKind.f64.decode p).neg then q else p
 | _ => p
theorem order_fv {a b : Nat} (ha : FinW a) (hb : FinW b) : FloatKind.f64.format.order a b = some (compare (fv a) (fv b)) := by
 obtain ⟨m, k, h1, h2, -⟩ := read_ex ha
 obtain ⟨n, l, h3, h4, -⟩ := read_ex hb
 show Datum.order (double.read a) (double.read b) = _
 rw [h1, h3]
 unfold Datum.order
 simp only [Option.some.injEq]
 have hmin : min (-1074 + (k : Int)) (-1074 + (l : Int)) = -1074 + ((min k l : Nat) : Int) := by omega
 rw [hmin]
 have e1 : (-1074 + (k : Int) - (-1074 + ((min k l : Nat) : Int))).toNat = k - min k l := by omega
 have e2 : (-1074 + (l : Int) - (-1074 + ((min k l : Nat) : Int))).toNat = l - min k l := by omega
 rw [e1, e2, sh_nn, sh_nn, h2, h4]
 have e3 : m * 2 ^ k = m * 2 ^ (k - min k l) * 2 ^ min k l := by rw [Nat.mul_assoc, ← Nat.pow_add, Nat.sub_add_cancel (Nat.min_le_left k l)]
 have e4 : n * 2 ^ l = n * 2 ^ (l - min k l) * 2 ^ min k l := by rw [Nat.mul_assoc, ← Nat.pow_add, Nat.sub_add_cancel (Nat.min_le_right k l)]
 rw [e3, e4]
 generalize m * 2 ^ (k - min k l) = x
 generalize n * 2 ^ (l - min k l) = y
 have hp := Nat.two_pow_pos (min k l)
 generalize 2 ^ min k l = p at hp
 have c1 : (compare (x : Int) (y : Int)) = compare x y := by
  rcases Nat.lt_trichotomy x y with h | h | h
  ·rw [Nat.compare_eq_lt.2 h, Int.compare_eq_lt.2 (by omega)]
  ·subst h; rw [Nat.compare_eq_eq.2 rfl, Int.compare_eq_eq.2 rfl]
  ·rw [Nat.compare_eq_gt.2 h, Int.compare_eq_gt.2 (by omega)]
 rw [c1]
 rcases Nat.lt_trichotomy x y with h | h | h
 ·rw [Nat.compare_eq_lt.2 h, Nat.compare_eq_lt.2 (Nat.mul_lt_mul_of_pos_right h hp)]
 ·subst h; rw [Nat.compare_eq_eq.2 rfl, Nat.compare_eq_eq.2 rfl]
 ·rw [Nat.compare_eq_gt.2 h, Nat.compare_eq_gt.2 (Nat.mul_lt_mul_of_pos_right h hp)]
theorem neg_fin {a : Nat} (ha : FinW a) : (FloatKind.f64.decode a).neg = false := by
 obtain ⟨m, k, h1, -, -⟩ := read_ex ha
 show (double.read a).neg = false
 rw [h1]; rfl
theorem fX_eq {a b : Nat} (ha : FinW a) (hb : FinW b) : (FloatKind.f64.format.order a b).isSome = true ∧ fX a b = if fv a < fv b then b else a := by
 have h := order_fv ha hb
 refine ⟨by rw [h]; rfl, ?_⟩
 unfold fX
 rw [h]
 rcases Nat.lt_trichotomy (fv a) (fv b) with q | q | q
 ·rw [Nat.compare_eq_lt.2 q, if_pos q]
 ·rw [Nat.compare_eq_eq.2 q, neg_fin ha]
  show a = _
  rw [if_neg (show ¬ fv a < fv b by omega)]
 ·rw [Nat.compare_eq_gt.2 q]
  show a = _
  rw [if_neg (show ¬ fv a < fv b by omega)]
theorem fA_eq {a b : Nat} (ha : FinW a) (hb : FinW b) : (floatBits .add .f64 a b).isSome = true ∧ fA a b = rdw (fv a + fv b) := by
 have h := add_fv ha hb
 exact ⟨by rw [h]; rfl, by unfold fA; rw [h]; rfl⟩
theorem fM_eq {n b : Nat} (hn : n < 9007199254740992) (hb : FinW b) (hl : 2 ^ 106 ≤ fv b) : (floatBits .mul .f64 (floatOfInt .f64 (n : Int)) b).isSome = true ∧ fM (floatOfInt .f64 (n : Int)) b = rdw (n * fv b) := by
 have h := mul_fv hn hb hl
 exact ⟨by rw [h]; rfl, by unfold fM; rw [h]; rfl⟩
def ftI (b : Nat) : Int := (floatToIntVal .f64 b .i64).getD 0
theorem cut_zero (n drop : Nat) : Toward.zero.cut false n drop = n / 2 ^ drop := by
 unfold Toward.cut
 simp only [Nat.one_shiftLeft, Bool.toNat_false, Nat.add_zero]
 by_cases h : drop ≤ n.log2 + 2
 ·rw [Nat.min_eq_left h]
 ·rw [Nat.min_eq_right (by omega)]
  have h1 : n < 2 ^ (n.log2 + 2) := Nat.lt_of_lt_of_le Nat.lt_log2_self (pow_mono (by omega))
  have h2 : n < 2 ^ drop := Nat.lt_of_lt_of_le h1 (pow_mono (by omega))
  rw [Nat.div_eq_of_lt h1, Nat.div_eq_of_lt h2]
theorem toInt_fv {b : Nat} (hb : FinW b) : (FloatKind.f64.decode b).toInt .zero = some ((fv b / 2 ^ bias : Nat) : Int) := by
 obtain ⟨m, k, h1, h2, -⟩ := read_ex hb
 show (double.read b).toInt .zero = _
 rw [h1]
 unfold Datum.toInt Datum.integral
 simp only [cut_zero, sh_nn, Nat.pow_zero, Nat.mul_one, Nat.shiftLeft_eq, Option.some.injEq]
 refine congrArg Int.ofNat ?_
 rw [h2]
 by_cases hk : k ≤ bias
 ·have hk' : k ≤ 1074 := hk
  rw [show (-1074 + (k : Int)).toNat = 0 by omega, show (-(-1074 + (k : Int))).toNat = bias - k by rw [bias_eq]; omega, Nat.pow_zero, Nat.mul_one]
  obtain ⟨d, hd⟩ : ∃ d, bias = k + d := ⟨bias - k, by omega⟩
  rw [hd, Nat.add_sub_cancel_left, Nat.pow_add, Nat.mul_comm m, Nat.mul_div_mul_left _ _ (Nat.two_pow_pos k)]
 ·have hk' : 1074 < k := Nat.lt_of_not_le hk
  obtain ⟨d, hd⟩ : ∃ d, k = bias + d := ⟨k - bias, by omega⟩
  have hd' : k = 1074 + d := hd
  rw [show (-1074 + (k : Int)).toNat = d by omega, show (-(-1074 + (k : Int))).toNat = 0 by omega, Nat.pow_zero, Nat.div_one, hd, Nat.pow_add, Nat.mul_left_comm, Nat.mul_div_cancel_left _ (Nat.two_pow_pos bias)]
theorem ftI_eq {b : Nat} (hb : FinW b) (h : fv b / 2 ^ bias < 4611686018427387904) : (floatToIntVal .f64 b .i64).isSome = true ∧ ftI b = ((fv b / 2 ^ bias : Nat) : Int) := by
 have e : floatToIntVal .f64 b .i64 = some ((fv b / 2 ^ bias : Nat) : Int) := by
  unfold floatToIntVal
  rw [toInt_fv hb]
  generalize fv b / 2 ^ bias = x at *
  simp only
  rw [if_pos]
  simp only [IntKind.min, IntKind.max, IntKind.signed, IntKind.bits]
  simp
  omega
 exact ⟨by rw [e]; rfl, by unfold ftI; rw [e]; rfl⟩
end Go.Fl
namespace Go.Fl
def frnd (b : Nat) : Nat :=
 if b / 4503599627370496 < 1023 then (if b / 4503599627370496 = 1022 then 4607182418800017408 else 0)
 else if b / 4503599627370496 < 1075 then
  (b + 2251799813685248 / 2 ^ (b / 4503599627370496 - 1023)) / 2 ^ (1075 - b / 4503599627370496) * 2 ^ (1075 - b / 4503599627370496)
 else b
theorem fv_at {s r : Nat} (r1 : 4503599627370496 ≤ r) (r2 : r ≤ 9007199254740992) : fv (s * 4503599627370496 + r) = r * 2 ^ s := by
 unfold fv
 rw [if_neg (by omega)]
 by_cases hr : r = 9007199254740992
 ·subst hr
  have e1 : (s * 4503599627370496 + 9007199254740992) / 4503599627370496 = s + 2 := by omega
  have e2 : (s * 4503599627370496 + 9007199254740992) % 4503599627370496 = 0 := by omega
  rw [e1, e2, show s + 2 - 1 = s + 1 by omega, Nat.pow_succ]
  omega
 ·have e1 : (s * 4503599627370496 + r) / 4503599627370496 = s + 1 := by omega
  have e2 : (s * 4503599627370496 + r) % 4503599627370496 = r - 4503599627370496 := by omega
  rw [e1, e2, Nat.add_sub_cancel, show 4503599627370496 + (r - 4503599627370496) = r by omega]
theorem pow52 (q : Nat) : 4503599627370496 * 2 ^ q = 2 ^ (52 + q) := by rw [Nat.pow_add]
def half : Nat := 1073
theorem half_eq : half = 1073 := rfl
theorem bias_half : 2 ^ bias = 2 * 2 ^ half := by rw [show bias = half + 1 from rfl, Nat.pow_succ']
theorem fv_split {b : Nat} (h : 4503599627370496 ≤ b) : fv b = (4503599627370496 + b % 4503599627370496) * 2 ^ (b / 4503599627370496 - 1) := by
 unfold fv
 rw [if_neg (by omega)]
theorem fv_small {b : Nat} (h : b / 4503599627370496 < 1022) : fv b < 2 ^ half := by
 by_cases h0 : b < 4503599627370496
 ·unfold fv
  rw [if_pos h0]
  exact Nat.lt_of_lt_of_le (show b < 2 ^ 52 from h0) (pow_mono (by rw [half_eq]; omega))
 ·rw [fv_split (by omega)]
  have h1 : 4503599627370496 + b % 4503599627370496 < 2 ^ 53 := by omega
  exact Nat.lt_of_lt_of_le (pow_lt_of h1) (pow_mono (by rw [half_eq]; omega))
theorem frnd_eq {b : Nat} (h : b / 4503599627370496 < 1075) : FinW (frnd b) ∧ fv (frnd b) = (fv b + 2 ^ half) / 2 ^ bias * 2 ^ bias := by
 unfold FinW
 have hbs := bias_half
 have hp := Nat.two_pow_pos half
 unfold frnd
 by_cases h1 : b / 4503599627370496 < 1023
 ·rw [if_pos h1]
  by_cases h2 : b / 4503599627370496 = 1022
  ·rw [if_pos h2]
   obtain ⟨q, hq⟩ : ∃ q, b / 4503599627370496 - 1 = q := ⟨_, rfl⟩
   have hh : half = 52 + q := by rw [half_eq]; omega
   have l1 : 2 ^ half ≤ fv b := by
    rw [fv_split (by omega), hq, hh, Nat.pow_add]
    exact Nat.mul_le_mul_right _ (by omega)
   have l2 : fv b < 2 * 2 ^ half := by
    rw [fv_split (by omega), hq, hh, Nat.pow_add, ← Nat.mul_assoc]
    exact Nat.mul_lt_mul_of_pos_right (by omega) (Nat.two_pow_pos _)
   have e : (fv b + 2 ^ half) / 2 ^ bias = 1 := by
    rw [hbs]
    exact Nat.div_eq_of_lt_le (by omega) (by omega)
   rw [e, Nat.one_mul]
   refine ⟨by omega, ?_⟩
   obtain ⟨s, hs⟩ : ∃ s, s = 1022 := ⟨_, rfl⟩
   have := fv_at (s := s) (r := 4503599627370496) (by omega) (by omega)
   rw [show s * 4503599627370496 + 4503599627370496 = 4607182418800017408 by omega, pow52, show 52 + s = bias by rw [bias_eq]; omega] at this
   exact this
  ·rw [if_neg h2]
   have l1 := fv_small (b := b) (by omega)
   have e : (fv b + 2 ^ half) / 2 ^ bias = 0 := Nat.div_eq_of_lt (by omega)
   rw [e, Nat.zero_mul]
   exact ⟨by omega, rfl⟩
 ·rw [if_neg h1, if_pos h]
  obtain ⟨e, he⟩ : ∃ e, b / 4503599627370496 = e + 1 := ⟨b / 4503599627370496 - 1, by omega⟩
  obtain ⟨t, ht⟩ : ∃ t, 1075 - b / 4503599627370496 = t + 1 := ⟨1075 - b / 4503599627370496 - 1, by omega⟩
  have e1 : 2251799813685248 / 2 ^ (b / 4503599627370496 - 1023) = 2 ^ t := by
   have : 2251799813685248 = 2 ^ t * 2 ^ (b / 4503599627370496 - 1023) := by
    rw [← Nat.pow_add, show t + (b / 4503599627370496 - 1023) = 51 by omega]
   rw [this, Nat.mul_div_cancel _ (Nat.two_pow_pos _)]
  rw [e1, ht, fv_split (b := b) (by omega)]
  have hm := Nat.mod_lt b (show 0 < 4503599627370496 by decide)
  have hb := Nat.div_add_mod b 4503599627370496
  rw [he, Nat.add_sub_cancel]
  rw [he] at hb
  generalize hmag : 4503599627370496 + b % 4503599627370496 = mag
  have hb' : b = e * 4503599627370496 + mag := by omega
  have hte : t + 1 + e = 1074 := by omega
  -- the unit of the last place
  have ebias : 2 ^ bias = 2 ^ (t + 1) * 2 ^ e := by rw [← Nat.pow_add, hte, show 1074 = bias from rfl]
  have ehalf : 2 ^ half = 2 ^ t * 2 ^ e := by rw [← Nat.pow_add, show t + e = half by rw [half_eq]; omega]
  have eR : (mag * 2 ^ e + 2 ^ half) / 2 ^ bias = (mag + 2 ^ t) / 2 ^ (t + 1) := by
   rw [ehalf, ebias, ← Nat.add_mul, Nat.mul_div_mul_right _ _ (Nat.two_pow_pos e)]
  rw [eR]
  have e52 : 4503599627370496 = 2 ^ (52 - (t + 1)) * 2 ^ (t + 1) := by
   rw [← Nat.pow_add, show 52 - (t + 1) + (t + 1) = 52 by omega]
  have hb2 : (b + 2 ^ t) / 2 ^ (t + 1) = e * 2 ^ (52 - (t + 1)) + (mag + 2 ^ t) / 2 ^ (t + 1) := by
   have : b + 2 ^ t = (mag + 2 ^ t) + (e * 2 ^ (52 - (t + 1))) * 2 ^ (t + 1) := by
    rw [Nat.mul_assoc, ← e52, hb']
    omega
   rw [this, Nat.add_mul_div_right _ _ (Nat.two_pow_pos _)]
   exact Nat.add_comm _ _
  rw [hb2, Nat.add_mul, Nat.mul_assoc e, ← e52]
  have r1 : 4503599627370496 ≤ (mag + 2 ^ t) / 2 ^ (t + 1) * 2 ^ (t + 1) := by
   have h3 : 2 ^ (52 - (t + 1)) ≤ (mag + 2 ^ t) / 2 ^ (t + 1) := by
    rw [Nat.le_div_iff_mul_le (Nat.two_pow_pos _), ← e52]
    have := Nat.two_pow_pos t
    omega
   have h4 := Nat.mul_le_mul_right (2 ^ (t + 1)) h3
   rw [← e52] at h4
   exact h4
  have r2 : (mag + 2 ^ t) / 2 ^ (t + 1) * 2 ^ (t + 1) ≤ 9007199254740992 := by
   have h3 : (mag + 2 ^ t) / 2 ^ (t + 1) < 2 ^ (53 - (t + 1)) + 1 := by
    rw [Nat.div_lt_iff_lt_mul (Nat.two_pow_pos _), Nat.add_mul, ← Nat.pow_add, show 53 - (t + 1) + (t + 1) = 53 by omega, Nat.one_mul, Nat.pow_succ]
    have := Nat.two_pow_pos t
    omega
   have h4 := Nat.mul_le_mul_right (2 ^ (t + 1)) (Nat.le_of_lt_succ h3)
   rw [← Nat.pow_add, show 53 - (t + 1) + (t + 1) = 53 by omega] at h4
   exact h4
  have hf := fv_at (s := e) r1 r2
  refine ⟨?_, ?_⟩
  ·generalize (mag + 2 ^ t) / 2 ^ (t + 1) * 2 ^ (t + 1) = r at r1 r2
   omega
  ·rw [hf, ebias, Nat.mul_assoc]
theorem lt_1075 {b : Nat} (hb : fv b < 2 ^ (bias + 40)) : b / 4503599627370496 < 1075 := by
 refine Nat.lt_of_not_le fun hle => ?_
 have h1 := fv_split (b := b) (by omega)
 have h2 : 2 ^ 52 * 2 ^ (b / 4503599627370496 - 1) ≤ fv b := by
  rw [h1]
  exact Nat.mul_le_mul_right _ (by omega)
 rw [← Nat.pow_add] at h2
 have h3 : 2 ^ (bias + 40) ≤ 2 ^ (52 + (b / 4503599627370496 - 1)) := pow_mono (by rw [bias_eq]; omega)
 exact absurd (Nat.lt_of_lt_of_le hb h3) (Nat.not_lt.2 h2)
theorem round_eq {b : Nat} (hb : fv b < 2 ^ (bias + 40)) : FinW (frnd b) ∧ (floatToIntVal .f64 (frnd b) .i64).isSome = true ∧ ftI (frnd b) = (((fv b + 2 ^ half) / 2 ^ bias : Nat) : Int) := by
 have h := lt_1075 hb
 obtain ⟨h1, h2⟩ := frnd_eq h
 have h3 : fv (frnd b) / 2 ^ bias = (fv b + 2 ^ half) / 2 ^ bias := by
  rw [h2, Nat.mul_div_cancel _ (Nat.two_pow_pos bias)]
 have h4 : (fv b + 2 ^ half) / 2 ^ bias < 4611686018427387904 := by
  rw [Nat.div_lt_iff_lt_mul (Nat.two_pow_pos bias)]
  have a : 2 ^ half ≤ 2 ^ (bias + 40) := pow_mono (by rw [bias_eq, half_eq]; omega)
  have c : 2 ^ (bias + 41) = 2 ^ (bias + 40) * 2 := by rw [show bias + 41 = (bias + 40) + 1 from rfl, Nat.pow_succ]
  have d : 2 ^ (bias + 41) ≤ 2 ^ (62 + bias) := pow_mono (by omega)
  rw [Nat.pow_add 2 62] at d
  have e : (2 : Nat) ^ 62 = 4611686018427387904 := by decide
  rw [e] at d
  generalize 2 ^ (bias + 40) = x at *
  generalize 4611686018427387904 * 2 ^ bias = z at *
  generalize 2 ^ (bias + 41) = y at *
  omega
 obtain ⟨h5, h6⟩ := ftI_eq h1 (by rw [h3]; exact h4)
 exact ⟨h1, h5, by rw [h6, h3]⟩
end Go.Fl
namespace Go.Fl
def Nr (c x y : Nat) : Prop := x * 1125899906842624 ≤ y * (1125899906842624 + c) ∧ y * 1125899906842624 ≤ x * (1125899906842624 + c)
theorem Nr.refl (x : Nat) : Nr 0 x x := ⟨Nat.le_refl _, Nat.le_refl _⟩
theorem Nr.mono {c d x y : Nat} (h : Nr c x y) (hcd : c ≤ d) : Nr d x y :=
 ⟨Nat.le_trans h.1 (Nat.mul_le_mul_left _ (by omega)), Nat.le_trans h.2 (Nat.mul_le_mul_left _ (by omega))⟩
theorem Nr.symm {c x y : Nat} (h : Nr c x y) : Nr c y x := ⟨h.2, h.1⟩
theorem Nr.add {c x y x' y' : Nat} (h : Nr c x y) (h' : Nr c x' y') : Nr c (x + x') (y + y') := by
 obtain ⟨a, b⟩ := h; obtain ⟨a', b'⟩ := h'
 exact ⟨by rw [Nat.add_mul, Nat.add_mul]; exact Nat.add_le_add a a', by rw [Nat.add_mul, Nat.add_mul]; exact Nat.add_le_add b b'⟩
theorem Nr.mul {c x y : Nat} (h : Nr c x y) (p : Nat) : Nr c (x * p) (y * p) := ⟨scale h.1, scale h.2⟩
theorem mul_chain {K a b x y z : Nat} (hK : 0 < K) (hab : a * b ≤ K) (h1 : x * K ≤ y * (K + a)) (h2 : y * K ≤ z * (K + b)) : x * K ≤ z * (K + (a + b + 1)) := by
 refine Nat.le_of_mul_le_mul_right (c := K) ?_ hK
 have e1 : x * K * K ≤ y * (K + a) * K := Nat.mul_le_mul_right _ h1
 have e2 : y * (K + a) * K = y * K * (K + a) := Nat.mul_right_comm ..
 have e3 : y * K * (K + a) ≤ z * (K + b) * (K + a) := Nat.mul_le_mul_right _ h2
 have e4 : (K + b) * (K + a) ≤ (K + (a + b + 1)) * K := by
  rw [Nat.add_mul, Nat.mul_add, Nat.mul_add, Nat.add_mul, Nat.add_mul, Nat.add_mul, Nat.mul_comm K a, Nat.mul_comm b a]
  omega
 have e5 : z * (K + b) * (K + a) ≤ z * (K + (a + b + 1)) * K := by
  rw [Nat.mul_assoc, Nat.mul_assoc]
  exact Nat.mul_le_mul_left _ e4
 omega
theorem Nr.trans {a b x y z : Nat} (h1 : Nr a x y) (h2 : Nr b y z) (hab : a * b ≤ 1125899906842624) : Nr (a + b + 1) x z := by
 refine ⟨mul_chain (by decide) hab h1.1 h2.1, ?_⟩
 have := mul_chain (K := 1125899906842624) (by decide) (by rw [Nat.mul_comm]; exact hab) h2.2 h1.2
 rw [Nat.add_comm b a] at this
 exact this
theorem rd_two {N : Nat} (h : N.log2 ≤ 2096) : fv (rdw N) * 2251799813685248 ≤ N * 2251799813685249 ∧ N * 2251799813685248 ≤ fv (rdw N) * 2251799813685249 := by
 have h1 := rd_hi h
 have h2 := rd_lo h
 generalize fv (rdw N) = f at *
 omega
theorem step_two {K a x y z : Nat} (hK : 0 < K) (ha : a ≤ K) (h1 : x * (2 * K) ≤ y * (2 * K + 1)) (h2 : y * K ≤ z * (K + a)) : x * K ≤ z * (K + (a + 1)) := by
 refine Nat.le_of_mul_le_mul_right (c := 2 * K) ?_ (by omega)
 have e1 : x * (2 * K) * K ≤ y * (2 * K + 1) * K := Nat.mul_le_mul_right _ h1
 have e2 : y * (2 * K + 1) * K = y * K * (2 * K + 1) := Nat.mul_right_comm ..
 have e3 : y * K * (2 * K + 1) ≤ z * (K + a) * (2 * K + 1) := Nat.mul_le_mul_right _ h2
 have e4 : (K + a) * (2 * K + 1) ≤ (K + (a + 1)) * (2 * K) := by
  rw [Nat.mul_add, Nat.mul_one, ← Nat.add_assoc K a 1, Nat.add_mul (K + a) 1, Nat.one_mul]
  omega
 have e5 : z * (K + a) * (2 * K + 1) ≤ z * (K + (a + 1)) * (2 * K) := by
  rw [Nat.mul_assoc, Nat.mul_assoc]
  exact Nat.mul_le_mul_left _ e4
 have e6 : x * K * (2 * K) = x * (2 * K) * K := Nat.mul_right_comm ..
 omega
theorem Nr.round {c N p y : Nat} (h : Nr c (N * p) y) (hc : c ≤ 1125899906842624) (hN : N.log2 ≤ 2096) : Nr (c + 1) (fv (rdw N) * p) y := by
 obtain ⟨h1, h2⟩ := rd_two hN
 have g1 := scale (p := p) h1
 have g2 := scale (p := p) h2
 refine ⟨step_two (by decide) hc g1 h.1, ?_⟩
 -- y K <= N p (K + c), N p 2K <= f p (2K + 1)
 have := h.2
 refine Nat.le_of_mul_le_mul_right (c := 2251799813685248) ?_ (by decide)
 have e1 : y * 1125899906842624 * 2251799813685248 ≤ N * p * (1125899906842624 + c) * 2251799813685248 := Nat.mul_le_mul_right _ this
 have e2 : N * p * (1125899906842624 + c) * 2251799813685248 = N * p * 2251799813685248 * (1125899906842624 + c) := Nat.mul_right_comm ..
 have e3 : N * p * 2251799813685248 * (1125899906842624 + c) ≤ fv (rdw N) * p * 2251799813685249 * (1125899906842624 + c) := Nat.mul_le_mul_right _ g2
 have e4 : 2251799813685249 * (1125899906842624 + c) ≤ (1125899906842624 + (c + 1)) * 2251799813685248 := by omega
 have e5 : fv (rdw N) * p * 2251799813685249 * (1125899906842624 + c) ≤ fv (rdw N) * p * (1125899906842624 + (c + 1)) * 2251799813685248 := by
  rw [Nat.mul_assoc (fv (rdw N) * p), Nat.mul_assoc (fv (rdw N) * p)]
  exact Nat.mul_le_mul_left _ e4
 exact Nat.le_trans e1 (Nat.le_trans (Nat.le_of_eq e2) (Nat.le_trans e3 e5))
theorem Nr.round1 {c N y : Nat} (h : Nr c N y) (hc : c ≤ 1125899906842624) (hN : N.log2 ≤ 2096) : Nr (c + 1) (fv (rdw N)) y := by
 have := Nr.round (p := 1) (by rw [Nat.mul_one]; exact h) hc hN
 rw [Nat.mul_one] at this
 exact this
theorem Nr.le2 {c x y : Nat} (h : Nr c x y) (hc : c ≤ 1125899906842624) : x ≤ 2 * y ∧ y ≤ 2 * x := by
 have a : y * (1125899906842624 + c) ≤ y * (1125899906842624 * 2) := Nat.mul_le_mul_left _ (by omega)
 have b : x * (1125899906842624 + c) ≤ x * (1125899906842624 * 2) := Nat.mul_le_mul_left _ (by omega)
 obtain ⟨h1, h2⟩ := h
 rw [← Nat.mul_assoc] at a b
 generalize x * (1125899906842624 + c) = u at *
 generalize y * (1125899906842624 + c) = v at *
 omega
end Go.Fl
namespace Go.Fl
def pr (g : Nat → Nat → Nat → Nat) (w : Nat → Nat) (i j k : Nat) : Nat := fM (floatOfInt .f64 (g i j k : Int)) (w k)
def ak (g : Nat → Nat → Nat → Nat) (w : Nat → Nat) (i j a : Nat) : Nat → Nat
 | 0 => a
 | k + 1 => fA (ak g w i j a k) (pr g w i j k)
def aj (g : Nat → Nat → Nat → Nat) (w : Nat → Nat) (n j : Nat) : Nat → Nat
 | 0 => 0
 | i + 1 => ak g w i j (aj g w n j i) n
def mx (f : Nat → Nat) : Nat → Nat
 | 0 => 0
 | j + 1 => fX (mx f j) (f j)
def stp (g : Nat → Nat → Nat → Nat) (n : Nat) (w : Nat → Nat) (j : Nat) : Nat := fQ (aj g w n j n) (mx (fun j => aj g w n j n) n)
def ww (g : Nat → Nat → Nat → Nat) (n : Nat) : Nat → Nat → Nat
 | 0 => fun _ => 4607182418800017408
 | s + 1 => stp g n (ww g n s)
def sk (g : Nat → Nat → Nat → Nat) (w : Nat → Nat) (i j : Nat) : Nat → Nat
 | 0 => 0
 | k + 1 => sk g w i j k + g i j k * fv (w k)
def sj (g : Nat → Nat → Nat → Nat) (w : Nat → Nat) (n j : Nat) : Nat → Nat
 | 0 => 0
 | i + 1 => sj g w n j i + sk g w i j n
structure GOk (g : Nat → Nat → Nat → Nat) (n B : Nat) : Prop where
 pos : 1 ≤ n
 top : n * n * B ≤ 16777216
 B1 : 1 ≤ B
 le : ∀ i, i < n → ∀ j, j < n → ∀ k, k < n → g i j k ≤ B
 some : ∀ j, j < n → ∀ k, k < n → ∃ i, i < n ∧ 1 ≤ g i j k
structure WOk (n : Nat) (w : Nat → Nat) : Prop where
 fin : ∀ k, k < n → FinW (w k)
 lo : ∀ k, k < n → 2 ^ (bias - 27) ≤ fv (w k)
 hi : ∀ k, k < n → fv (w k) ≤ 2 ^ (bias + 1)
section
variable {g : Nat → Nat → Nat → Nat} {n B : Nat} {w : Nat → Nat}
theorem GOk.B24 (h : GOk g n B) : B ≤ 16777216 := by
 have h1 := h.top
 have h2 : 1 * B ≤ n * n * B := Nat.mul_le_mul_right _ (Nat.mul_le_mul h.pos h.pos)
 omega
theorem GOk.n24 (h : GOk g n B) : n * n ≤ 16777216 := by
 have h1 := h.top
 have h2 : n * n * 1 ≤ n * n * B := Nat.mul_le_mul_left _ h.B1
 omega
theorem lowW : 2 ^ 106 ≤ 2 ^ (bias - 27) := pow_mono (by rw [bias_eq]; omega)
theorem sk_le {m : Nat} (h : GOk g n B) (hw : ∀ k, k < n → fv (w k) ≤ m) {i j : Nat} (hi : i < n) (hj : j < n) : ∀ k, k ≤ n → sk g w i j k ≤ k * (B * m)
 | 0, _ => by simp [sk]
 | k + 1, hk => by
  have := sk_le h hw hi hj k (by omega)
  have h2 : g i j k * fv (w k) ≤ B * m := Nat.mul_le_mul (h.le i hi j hj k (by omega)) (hw k (by omega))
  rw [sk, Nat.add_mul, Nat.one_mul]
  omega
theorem sj_le {m : Nat} (h : GOk g n B) (hw : ∀ k, k < n → fv (w k) ≤ m) {j : Nat} (hj : j < n) : ∀ i, i ≤ n → sj g w n j i ≤ i * (n * (B * m))
 | 0, _ => by simp [sj]
 | i + 1, hi => by
  have := sj_le h hw hj i (by omega)
  have h2 := sk_le h hw (show i < n by omega) hj n (Nat.le_refl _)
  rw [sj, Nat.add_mul, Nat.one_mul]
  omega
theorem sum_le {m : Nat} (h : GOk g n B) (hw : ∀ k, k < n → fv (w k) ≤ m) {i j k : Nat} (hi : i < n) (hj : j < n) (hk : k ≤ n) : sj g w n j i + sk g w i j k ≤ 16777216 * m := by
 have h1 := sj_le h hw hj i (by omega)
 have h2 := sk_le h hw hi hj k hk
 have h3 : k * (B * m) ≤ n * (B * m) := Nat.mul_le_mul_right _ hk
 have h4 : (i + 1) * (n * (B * m)) ≤ n * (n * (B * m)) := Nat.mul_le_mul_right _ (by omega)
 have h5 : n * (n * (B * m)) = n * n * B * m := by rw [Nat.mul_assoc (n * n) B m, Nat.mul_assoc n n]
 have h6 : n * n * B * m ≤ 16777216 * m := Nat.mul_le_mul_right _ h.top
 rw [Nat.add_mul, Nat.one_mul] at h4
 omega
theorem sk_mono {i j : Nat} : ∀ k d, sk g w i j k ≤ sk g w i j (k + d)
 | _, 0 => Nat.le_refl _
 | k, d + 1 => by
  have := sk_mono (i := i) (j := j) k d
  show _ ≤ sk g w i j (k + d) + _
  omega
theorem sj_mono {j : Nat} : ∀ i d, sj g w n j i ≤ sj g w n j (i + d)
 | _, 0 => Nat.le_refl _
 | i, d + 1 => by
  have := sj_mono (j := j) i d
  show _ ≤ sj g w n j (i + d) + _
  omega
theorem sj_ge (h : GOk g n B) {j k : Nat} (hj : j < n) (hk : k < n) : fv (w k) ≤ sj g w n j n := by
 obtain ⟨i, hi, h1⟩ := h.some j hj k hk
 have e1 : sk g w i j (k + 1) = sk g w i j k + g i j k * fv (w k) := rfl
 have e2 : 1 * fv (w k) ≤ g i j k * fv (w k) := Nat.mul_le_mul_right _ h1
 have e3 := sk_mono (g := g) (w := w) (i := i) (j := j) (k + 1) (n - (k + 1))
 rw [show k + 1 + (n - (k + 1)) = n by omega] at e3
 have e4 : sj g w n j (i + 1) = sj g w n j i + sk g w i j n := rfl
 have e5 := sj_mono (g := g) (w := w) (n := n) (j := j) (i + 1) (n - (i + 1))
 rw [show i + 1 + (n - (i + 1)) = n by omega] at e5
 omega
theorem log_le {x : Nat} (h : x ≤ 2 ^ (bias + 60)) : x.log2 ≤ 2096 := log2_le_of (Nat.lt_of_le_of_lt h (Nat.pow_lt_pow_right (by decide) (Nat.lt_succ_self _))) (by rw [bias_eq]; omega)
theorem pw_mul (a c : Nat) {x : Nat} (h : x ≤ 2 ^ c) : 2 ^ a * x ≤ 2 ^ (c + a) := by
 rw [Nat.pow_add, Nat.mul_comm]
 exact Nat.mul_le_mul_right _ h
theorem pr_ok (h : GOk g n B) (hw : WOk n w) {i j k : Nat} (hi : i < n) (hj : j < n) (hk : k < n) :
  (floatBits .mul .f64 (floatOfInt .f64 (g i j k : Int)) (w k)).isSome = true ∧ FinW (pr g w i j k) ∧ Nr 1 (fv (pr g w i j k)) (g i j k * fv (w k)) := by
 have hg := h.le i hi j hj k hk
 have hB := h.B24
 obtain ⟨h1, h2⟩ := fM_eq (n := g i j k) (by omega) (hw.fin k hk) (Nat.le_trans lowW (hw.lo k hk))
 have hl : (g i j k * fv (w k)).log2 ≤ 2096 := by
  apply log_le
  have a : g i j k * fv (w k) ≤ 2 ^ 24 * fv (w k) := Nat.mul_le_mul_right _ (by omega)
  have c := pw_mul 24 (bias + 1) (hw.hi k hk)
  have d : 2 ^ (bias + 1 + 24) ≤ 2 ^ (bias + 60) := pow_mono (by omega)
  omega
 unfold pr
 rw [h2]
 exact ⟨h1, (fv_rdw hl).1, (Nr.refl _).round1 (by decide) hl⟩
theorem ak_ok (h : GOk g n B) (hw : WOk n w) {i j a : Nat} (hi : i < n) (hj : j < n) (ha : FinW a) (hn : Nr (i * n + 1) (fv a) (sj g w n j i)) : ∀ k, k ≤ n →
  FinW (ak g w i j a k) ∧ Nr (i * n + k + 1) (fv (ak g w i j a k)) (sj g w n j i + sk g w i j k)
 | 0, _ => ⟨ha, by simpa [ak, sk] using hn⟩
 | k + 1, hk => by
  obtain ⟨h1, h2⟩ := ak_ok h hw hi hj ha hn k (by omega)
  obtain ⟨-, h3, h4⟩ := pr_ok h hw hi hj (show k < n by omega)
  obtain ⟨-, h5⟩ := fA_eq h1 h3
  have hin : i * n + k + 1 ≤ 16777217 := by
   have a1 : (i + 1) * n ≤ n * n := Nat.mul_le_mul_right _ (by omega)
   have a2 := h.n24
   rw [Nat.add_mul] at a1
   omega
  have h6 := h2.add (h4.mono (show 1 ≤ i * n + k + 1 by omega))
  have e : sj g w n j i + sk g w i j k + g i j k * fv (w k) = sj g w n j i + sk g w i j (k + 1) := by
   show _ = _ + (_ + _)
   omega
  rw [e] at h6
  have hs := sum_le h hw.hi hi hj hk
  have hl : (fv (ak g w i j a k) + fv (pr g w i j k)).log2 ≤ 2096 := by
   apply log_le
   have := (h6.le2 (by omega)).1
   have c := pw_mul 25 (bias + 1) (Nat.le_refl (2 ^ (bias + 1)))
   have d : 2 ^ (bias + 1 + 25) ≤ 2 ^ (bias + 60) := pow_mono (by omega)
   generalize 2 ^ (bias + 1) = z at *
   generalize 2 ^ (bias + 60) = z2 at *
   generalize 2 ^ (bias + 1 + 25) = z3 at *
   omega
  unfold ak
  rw [h5]
  exact ⟨(fv_rdw hl).1, h6.round1 (by omega) hl⟩
theorem aj_ok (h : GOk g n B) (hw : WOk n w) {j : Nat} (hj : j < n) : ∀ i, i ≤ n → FinW (aj g w n j i) ∧ Nr (i * n + 1) (fv (aj g w n j i)) (sj g w n j i)
 | 0, _ => ⟨by unfold aj FinW; omega, by
   show Nr (0 * n + 1) (fv 0) 0
   exact (Nr.refl 0).mono (by omega)⟩
 | i + 1, hi => by
  obtain ⟨h1, h2⟩ := aj_ok h hw hj i (by omega)
  obtain ⟨h3, h4⟩ := ak_ok h hw (show i < n by omega) hj h1 h2 n (Nat.le_refl _)
  refine ⟨h3, ?_⟩
  rw [show (i + 1) * n + 1 = i * n + n + 1 by rw [Nat.add_mul]; omega]
  exact h4
theorem mx_ok {f : Nat → Nat} : ∀ m, (∀ j, j < m → FinW (f j) ∧ 1 ≤ fv (f j)) → FinW (mx f m) ∧ (∀ j, j < m → fv (f j) ≤ fv (mx f m)) ∧ (1 ≤ m → ∃ j, j < m ∧ mx f m = f j)
 | 0, _ => ⟨by unfold mx FinW; omega, fun j hj => absurd hj (Nat.not_lt_zero j), fun h => by omega⟩
 | m + 1, hf => by
  obtain ⟨h1, h2, h3⟩ := mx_ok m fun j hj => hf j (by omega)
  obtain ⟨g1, g2⟩ := hf m (by omega)
  obtain ⟨-, he⟩ := fX_eq h1 g1
  have e : mx f (m + 1) = fX (mx f m) (f m) := rfl
  rw [e, he]
  split
  ·rename_i hlt
   refine ⟨g1, fun j hj => ?_, fun _ => ⟨m, by omega, rfl⟩⟩
   rcases Nat.lt_succ_iff_lt_or_eq.1 hj with hj | rfl
   ·have := h2 j hj; omega
   ·exact Nat.le_refl _
  ·rename_i hlt
   refine ⟨h1, fun j hj => ?_, fun _ => ?_⟩
   ·rcases Nat.lt_succ_iff_lt_or_eq.1 hj with hj | rfl
    ·exact h2 j hj
    ·omega
   ·by_cases hm : 1 ≤ m
    ·obtain ⟨j, hj, e⟩ := h3 hm
     exact ⟨j, by omega, e⟩
    ·obtain rfl : m = 0 := by omega
     exfalso
     have : fv (mx f 0) = 0 := rfl
     omega
theorem max_some {m : Nat} (f : Nat → Nat) (h : 1 ≤ m) : ∃ k, k < m ∧ ∀ j, j < m → f j ≤ f k := by
 induction m with
 | zero => omega
 | succ m ih =>
  by_cases h1 : 1 ≤ m
  ·obtain ⟨k, hk, h2⟩ := ih h1
   by_cases h3 : f k ≤ f m
   ·exact ⟨m, by omega, fun j hj => by
     rcases Nat.lt_succ_iff_lt_or_eq.1 hj with hj | rfl
     ·have := h2 j hj; omega
     ·exact Nat.le_refl _⟩
   ·exact ⟨k, by omega, fun j hj => by
     rcases Nat.lt_succ_iff_lt_or_eq.1 hj with hj | rfl
     ·exact h2 j hj
     ·omega⟩
  ·obtain rfl : m = 0 := by omega
   exact ⟨0, by omega, fun j hj => by
    obtain rfl : j = 0 := by omega
    exact Nat.le_refl _⟩
theorem fQ_ok {a b : Nat} (ha : FinW a) (hb : FinW b) (a1 : 2 ^ lowE ≤ fv a) (a2 : fv a < 2 ^ topE) (b1 : 2 ^ lowE ≤ fv b) (b2 : fv b < 2 ^ topE) :
  (floatBits .quo .f64 a b).isSome = true ∧ FinW (fQ a b) ∧ Nr 2 (fv (fQ a b) * fv b) (fv a * 2 ^ bias) := by
 obtain ⟨N, h1, h2, h3, h4⟩ := quo_fv ha hb a1 a2 b1 b2
 have e : fQ a b = rdw N := by unfold fQ; rw [h1]; rfl
 rw [e]
 refine ⟨by rw [h1]; rfl, (fv_rdw h2).1, ?_⟩
 have h5 : Nr 1 (N * fv b) (fv a * 2 ^ bias) := by
  unfold Nr
  generalize N * fv b = x at *
  generalize fv a * 2 ^ bias = y at *
  omega
 exact h5.round (by decide) h2
end
end Go.Fl
namespace Go.Fl
section
variable {g : Nat → Nat → Nat → Nat} {n B : Nat} {w : Nat → Nat}
theorem ac6 (a b c : Nat) : a * (b * c) = b * (c * a) := by ac_rfl
theorem aj_rng (h : GOk g n B) (hw : WOk n w) : ∃ m, 2 ^ (bias - 27) ≤ m ∧ m ≤ 2 ^ (bias + 1) ∧ ∀ j, j < n → m ≤ 2 * fv (aj g w n j n) ∧ fv (aj g w n j n) ≤ 33554432 * m := by
 obtain ⟨k, hk, hm⟩ := max_some (fun k => fv (w k)) h.pos
 refine ⟨fv (w k), hw.lo k hk, hw.hi k hk, fun j hj => ?_⟩
 obtain ⟨h1, h2⟩ := aj_ok h hw hj n (Nat.le_refl n)
 have h3 := h2.le2 (by have := h.n24; omega)
 have h4 := sj_ge (w := w) h hj hk
 have hp := h.pos
 have h5 := sj_le h (m := fv (w k)) hm hj n (Nat.le_refl n)
 have h6 : n * (n * (B * fv (w k))) = n * n * B * fv (w k) := by rw [Nat.mul_assoc (n * n) B, Nat.mul_assoc n n]
 have h7 : n * n * B * fv (w k) ≤ 16777216 * fv (w k) := Nat.mul_le_mul_right _ h.top
 omega
theorem rng_in {a m : Nat} (h1 : 2 ^ (bias - 27) ≤ m) (h2 : m ≤ 2 ^ (bias + 1)) (h3 : m ≤ 2 * a) (h4 : a ≤ 33554432 * m) : 2 ^ lowE ≤ a ∧ a < 2 ^ topE ∧ 1 ≤ a := by
 have e1 : 2 ^ (bias - 27) = 2 * 2 ^ (bias - 28) := by rw [← Nat.pow_succ', show (bias - 28).succ = bias - 27 from rfl]
 have e2 : 2 ^ lowE ≤ 2 ^ (bias - 28) := pow_mono (by rw [bias_eq]; exact (by decide : 1000 ≤ 1074 - 28))
 have e3 : 33554432 * 2 ^ (bias + 1) = 2 ^ (25 + (bias + 1)) := by rw [Nat.pow_add 2 25 (bias + 1)]
 have e4 : 2 ^ (25 + (bias + 1)) < 2 ^ topE := Nat.pow_lt_pow_right (by decide) (by rw [bias_eq]; exact (by decide : 25 + (1074 + 1) < 1200))
 have e5 := Nat.two_pow_pos lowE
 generalize 2 ^ (bias - 27) = z1 at *
 generalize 2 ^ (bias - 28) = z2 at *
 generalize 2 ^ lowE = z3 at *
 generalize 2 ^ (bias + 1) = z4 at *
 generalize 2 ^ (25 + (bias + 1)) = z5 at *
 generalize 2 ^ topE = z6 at *
 omega
structure SOk (g : Nat → Nat → Nat → Nat) (n : Nat) (w : Nat → Nat) : Prop where
 /-- the greatest of the sums -/
 mfin : FinW (mx (fun j => aj g w n j n) n)
 mpos : 1 ≤ fv (mx (fun j => aj g w n j n) n)
 quo : ∀ j, j < n → (floatBits .quo .f64 (aj g w n j n) (mx (fun j => aj g w n j n) n)).isSome = true
 near : ∀ j, j < n → Nr (n * n + 8) (fv (stp g n w j) * fv (mx (fun j => aj g w n j n) n)) (sj g w n j n * 2 ^ bias)
 next : WOk n (stp g n w)
theorem step_ok (h : GOk g n B) (hw : WOk n w) : SOk g n w := by
 obtain ⟨m, hm1, hm2, hm⟩ := aj_rng h hw
 have ha : ∀ j, j < n → FinW (aj g w n j n) ∧ 1 ≤ fv (aj g w n j n) := fun j hj => by
  obtain ⟨h3, h4⟩ := hm j hj
  exact ⟨(aj_ok h hw hj n (Nat.le_refl n)).1, (rng_in hm1 hm2 h3 h4).2.2⟩
 obtain ⟨b1, b2, b3⟩ := mx_ok n ha
 obtain ⟨jm, hjm, em⟩ := b3 h.pos
 have hbm : m ≤ 2 * fv (mx (fun j => aj g w n j n) n) ∧ fv (mx (fun j => aj g w n j n) n) ≤ 33554432 * m := by
  rw [em]
  exact hm jm hjm
 obtain ⟨c1, c2, c3⟩ := rng_in hm1 hm2 hbm.1 hbm.2
 have q : ∀ j, j < n → (floatBits .quo .f64 (aj g w n j n) (mx (fun j => aj g w n j n) n)).isSome = true ∧ FinW (stp g n w j) ∧ Nr 2 (fv (stp g n w j) * fv (mx (fun j => aj g w n j n) n)) (fv (aj g w n j n) * 2 ^ bias) := fun j hj => by
  obtain ⟨h3, h4⟩ := hm j hj
  obtain ⟨d1, d2, d3⟩ := rng_in hm1 hm2 h3 h4
  exact fQ_ok (ha j hj).1 b1 d1 d2 c1 c2
 refine ⟨b1, c3, fun j hj => (q j hj).1, fun j hj => ?_, fun j hj => (q j hj).2.1, fun j hj => ?_, fun j hj => ?_⟩
 ·have h1 := (aj_ok h hw hj n (Nat.le_refl n)).2.mul (2 ^ bias)
  have hn := h.n24
  exact ((q j hj).2.2.trans h1 (by omega)).mono (by omega)
 ·-- 2^bias a <= 2 q b, b <= 2^26 a
  have h1 := ((q j hj).2.2.le2 (by decide)).2
  obtain ⟨h3, h4⟩ := hm j hj
  have hb : fv (mx (fun j => aj g w n j n) n) ≤ 67108864 * fv (aj g w n j n) := by omega
  have hq : fv (stp g n w j) * fv (mx (fun j => aj g w n j n) n) ≤ fv (stp g n w j) * (67108864 * fv (aj g w n j n)) := Nat.mul_le_mul_left _ hb
  have ea : 1 ≤ fv (aj g w n j n) := (ha j hj).2
  have e1 : 2 ^ bias = 134217728 * 2 ^ (bias - 27) := by
   have : 134217728 = 2 ^ 27 := by decide
   rw [this, ← Nat.pow_add, show 27 + (bias - 27) = bias from rfl]
  rw [e1] at h1
  refine Nat.le_of_mul_le_mul_right (c := fv (aj g w n j n)) ?_ ea
  rw [← Nat.mul_assoc, Nat.mul_comm (fv (stp g n w j)) 67108864, Nat.mul_assoc] at hq
  have e2 : fv (aj g w n j n) * (134217728 * 2 ^ (bias - 27)) = 134217728 * (2 ^ (bias - 27) * fv (aj g w n j n)) := ac6 ..
  rw [e2] at h1
  generalize 2 ^ (bias - 27) * fv (aj g w n j n) = x at *
  generalize fv (stp g n w j) * fv (aj g w n j n) = y at *
  generalize fv (stp g n w j) * fv (mx (fun j => aj g w n j n) n) = z at *
  omega
 ·have h1 := ((q j hj).2.2.le2 (by decide)).1
  have h2 := b2 j hj
  refine Nat.le_of_mul_le_mul_right (c := fv (mx (fun j => aj g w n j n) n)) ?_ c3
  refine Nat.le_trans h1 ?_
  rw [Nat.pow_succ, Nat.mul_comm (2 ^ bias) 2, Nat.mul_assoc, Nat.mul_comm (2 ^ bias)]
  exact Nat.mul_le_mul_left _ (Nat.mul_le_mul_right _ h2)
theorem one_ok : WOk n (fun _ => 4607182418800017408) := by
 have e : fv 4607182418800017408 = 2 ^ bias := by
  obtain ⟨s, hs⟩ : ∃ s, s = 1022 := ⟨_, rfl⟩
  have := fv_at (s := s) (r := 4503599627370496) (by omega) (by omega)
  rw [show s * 4503599627370496 + 4503599627370496 = 4607182418800017408 by omega, pow52, show 52 + s = bias by rw [bias_eq]; omega] at this
  exact this
 exact ⟨fun k _ => by unfold FinW; omega, fun k _ => by rw [e]; exact pow_mono (by omega), fun k _ => by rw [e]; exact pow_mono (by omega)⟩
theorem ww_ok (h : GOk g n B) : ∀ s, WOk n (ww g n s)
 | 0 => one_ok
 | s + 1 => (step_ok h (ww_ok h s)).next
def dq (w : Nat → Nat) (j : Nat) : Nat := fQ (w j) (w 0)
theorem dq_ok (hp : 1 ≤ n) (hw : WOk n w) {j : Nat} (hj : j < n) : (floatBits .quo .f64 (w j) (w 0)).isSome = true ∧ FinW (dq w j) ∧ Nr 2 (fv (dq w j) * fv (w 0)) (fv (w j) * 2 ^ bias) ∧ fv (dq w j) ≤ 2 ^ (bias + 29) := by
 have rng : ∀ k, k < n → 2 ^ lowE ≤ fv (w k) ∧ fv (w k) < 2 ^ topE := fun k hk => by
  have h1 := hw.lo k hk
  have h2 := hw.hi k hk
  have e2 : 2 ^ lowE ≤ 2 ^ (bias - 27) := pow_mono (by rw [bias_eq]; exact (by decide : 1000 ≤ 1074 - 27))
  have e4 : 2 ^ (bias + 1) < 2 ^ topE := Nat.pow_lt_pow_right (by decide) (by rw [bias_eq]; exact (by decide : 1074 + 1 < 1200))
  exact ⟨Nat.le_trans e2 h1, Nat.lt_of_le_of_lt h2 e4⟩
 obtain ⟨q1, q2, q3⟩ := fQ_ok (hw.fin j hj) (hw.fin 0 hp) (rng j hj).1 (rng j hj).2 (rng 0 hp).1 (rng 0 hp).2
 refine ⟨q1, q2, q3, ?_⟩
 have h1 := (q3.le2 (by decide)).1
 have h2 := hw.hi j hj
 have h3 := hw.lo 0 hp
 have hpos := Nat.two_pow_pos (bias - 27)
 refine Nat.le_of_mul_le_mul_right (c := 2 ^ (bias - 27)) ?_ hpos
 have h4 : fQ (w j) (w 0) * 2 ^ (bias - 27) ≤ fQ (w j) (w 0) * fv (w 0) := Nat.mul_le_mul_left _ h3
 have h5 : fv (dq w j) * 2 ^ (bias - 27) ≤ fv (dq w j) * fv (w 0) := Nat.mul_le_mul_left _ h3
 have h6 : fv (w j) * 2 ^ bias ≤ 2 ^ (bias + 1) * 2 ^ bias := Nat.mul_le_mul_right _ h2
 have h7 : 2 ^ (bias + 29) * 2 ^ (bias - 27) = 2 * (2 ^ (bias + 1) * 2 ^ bias) := by
  rw [← Nat.pow_add, ← Nat.pow_add, ← Nat.pow_succ', show bias + 29 + (bias - 27) = bias + 1 + bias + 1 by rw [bias_eq]]
 rw [h7]
 exact Nat.le_trans h5 (Nat.le_trans h1 (Nat.mul_le_mul_left _ h6))
def dn (g : Nat → Nat → Nat → Nat) (n j : Nat) : Nat := (fv (dq (ww g n 3000) j) + 2 ^ half) / 2 ^ bias
theorem dn_ok (h : GOk g n B) {j : Nat} (hj : j < n) : (floatToIntVal .f64 (frnd (dq (ww g n 3000) j)) .i64).isSome = true ∧ ftI (frnd (dq (ww g n 3000) j)) = (dn g n j : Nat) ∧ dn g n j ≤ 536870912 := by
 obtain ⟨-, -, -, h2⟩ := dq_ok h.pos (ww_ok h 3000) hj
 obtain ⟨-, h3, h4⟩ := round_eq (b := dq (ww g n 3000) j) (Nat.lt_of_le_of_lt h2 (Nat.pow_lt_pow_right (by decide) (by omega)))
 refine ⟨h3, h4, ?_⟩
 unfold dn
 have e : 2 ^ (bias + 29) = 536870912 * 2 ^ bias := by rw [Nat.add_comm, Nat.pow_add]
 have hb := bias_half
 have hp := Nat.two_pow_pos half
 refine Nat.le_of_lt_succ ((Nat.div_lt_iff_lt_mul (Nat.two_pow_pos bias)).2 ?_)
 rw [e] at h2
 generalize 2 ^ bias = x at *
 generalize 2 ^ half = y at *
 omega
end
end Go.Fl
