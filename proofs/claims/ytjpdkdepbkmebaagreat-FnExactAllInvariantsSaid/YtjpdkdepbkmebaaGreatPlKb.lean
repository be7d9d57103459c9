import Derived.Test.YtjpdkdepbkmebaaGreatPlKa
set_option linter.unusedSimpArgs false
set_option linter.unusedVariables false
namespace Go.Pl
open Go
theorem vF_at {t : List Int} {B n c j x : Nat} (hj : j < cb t n) (hx : fr t x = true) (hc : cb t x = j) (y : Nat) :
  (if y = x then (rowF (cb t n) (dgF B (cb t n) (cb t n) c)).getD j 0 else vF t B n c j y) = vF t B n c (j + 1) y := by
 have h1 : 1 ≤ x := by
  unfold fr at hx
  simp only [Bool.and_eq_true, decide_eq_true_eq] at hx
  exact hx.1
 rw [rowF_get hj]
 unfold vF dgF
 rw [if_pos (show cb t n ≤ j + cb t n by omega)]
 by_cases e : y = x
 ·subst e
  rw [if_pos rfl, if_neg (by omega), if_pos ⟨hx, by omega⟩, hc]
 ·rw [if_neg e]
  by_cases h0 : y = 0
  ·rw [if_pos h0, if_pos h0]
  ·rw [if_neg h0, if_neg h0]
   by_cases hy : fr t y = true
   ·have : cb t y ≠ j := fun h => e (cb_inj hy hx (by omega))
    by_cases hl : cb t y < j
    ·rw [if_pos ⟨hy, hl⟩, if_pos ⟨hy, by omega⟩]
    ·rw [if_neg (fun h => hl h.2), if_neg (fun h => by have := h.2; omega)]
   ·rw [if_neg (fun h => hy h.1), if_neg (fun h => hy h.1)]
def mG (t : List Int) (B c j : Nat) : List (List Int) := matF t.length t.length fun i l => vF (tF t) B (t.length * t.length) c j (i * t.length + l)
theorem mG_zero {t : List Int} {B c : Nat} : (List.replicate t.length (List.replicate t.length (0 : Int))).set 0 (((List.replicate t.length (List.replicate t.length (0 : Int))).getD 0 []).set 0 1) = mG t B c 0 := by
 have e : List.replicate t.length (List.replicate t.length (0 : Int)) = matF t.length t.length (fun _ _ => 0) := by simp [matF, rowF, List.map_const']
 by_cases h : 0 < t.length
 ·rw [e, matF_set h]
  refine matF_congr fun i _ l _ => ?_
  unfold vF
  by_cases h0 : i * t.length + l = 0
  ·have h2 : i * t.length = 0 := by omega
   have h3 : i = 0 := by
    rcases Nat.mul_eq_zero.1 h2 with h3 | h3
    ·exact h3
    ·omega
   rw [if_pos ⟨h3, by omega⟩, if_pos h0]
  ·rw [if_neg h0, if_neg (fun hh => h0 (by rw [hh.1, hh.2]; simp)), if_neg (fun hh => by omega)]
 ·have h2 : t = [] := List.eq_nil_of_length_eq_zero (by omega)
  subst h2
  rfl
theorem mG_step {t : List Int} {B c j x : Nat} (hj : j < cb (tF t) (t.length * t.length)) (hxn : x < t.length * t.length) (hx : fr (tF t) x = true) (hc : cb (tF t) x = j) :
  (mG t B c j).set (x / t.length) (((mG t B c j).getD (x / t.length) []).set (x % t.length) ((rowF (cb (tF t) (t.length * t.length)) (dgF B (cb (tF t) (t.length * t.length)) (cb (tF t) (t.length * t.length)) c)).getD j 0)) = mG t B c (j + 1) := by
 unfold mG
 rw [matF_set (pl_div hxn)]
 refine matF_congr fun i hi l hl => ?_
 rw [← vF_at hj hx hc]
 by_cases e : i * t.length + l = x
 ·have h2 := pl_dm (i := i) hl
  rw [if_pos ⟨by rw [← e]; exact h2.1.symm, by rw [← e]; exact h2.2.symm⟩, if_pos e]
 ·rw [if_neg (fun hh => e (by rw [hh.1, hh.2]; exact pl_eq)), if_neg e]
theorem mG_end {t : List Int} {B c : Nat} : mG t B c (cb (tF t) (t.length * t.length)) = mxF t.length (vOf (tF t) B c) := by
 unfold mG mxF
 refine matF_congr fun i hi l hl => ?_
 have h : i * t.length + l < t.length * t.length := by
  have : (i + 1) * t.length ≤ t.length * t.length := Nat.mul_le_mul_right _ hi
  rw [Nat.succ_mul] at this
  omega
 unfold vOf
 rw [rowF_get (by rw [tF_length]; exact h), tF_length]
def plP (t : List Int) (p : Nat) : List (Int × Int) := (plc (tF t) p).map fun z => (((z.toNat / t.length : Nat) : Int), ((z.toNat % t.length : Nat) : Int))
theorem plP_length {t : List Int} (p : Nat) : (plP t p).length = cb (tF t) p := by unfold plP; rw [List.length_map, plc_length]
theorem plP_get {t : List Int} (n j : Nat) (hj : j < cb (tF t) n) : ∃ x, x < n ∧ fr (tF t) x = true ∧ cb (tF t) x = j ∧ (plP t n).getD j (0, 0) = (((x / t.length : Nat) : Int), ((x % t.length : Nat) : Int)) := by
 obtain ⟨x, h1, h2, h3, h4⟩ := plc_get n j hj
 refine ⟨x, h1, h2, h3, ?_⟩
 have hl : j < (plc (tF t) n).length := by rw [plc_length]; exact hj
 unfold plP
 rw [List.getD_eq_getElem?_getD, List.getElem?_map, List.getElem?_eq_getElem hl]
 rw [List.getD_eq_getElem?_getD, List.getElem?_eq_getElem hl, Option.getD_some] at h4
 rw [h4]
 rfl
theorem plP_succ {t : List Int} {p : Nat} : plP t (p + 1) = if fr (tF t) p = true then plP t p ++ [(((p / t.length : Nat) : Int), ((p % t.length : Nat) : Int))] else plP t p := by
 unfold plP
 rw [plc_succ]
 by_cases h : fr (tF t) p = true
 ·rw [if_pos h, if_pos h, List.map_append]
  rfl
 ·rw [if_neg h, if_neg h]
theorem cb_le2 {t : List Int} : ∀ n, cb t n ≤ n
 | 0 => Nat.le_refl _
 | n + 1 => by
  rw [cb_succ]
  have := cb_le2 (t := t) n
  split <;> omega
noncomputable def visM (s : List (List Int)) (t u : List Int) (O : List (List (List Int))) : List (List (List Int)) := if bd (InvP s t (mxF t.length u)) = true then O ++ [mxF t.length u] else O
noncomputable def iaL (s : List (List Int)) (t : List Int) (B m : Nat) : List (List (List Int)) := (((List.range m).map (vOf (tF t) B)).filter fun u => bd (InvP s t (mxF t.length u))).map (mxF t.length)
theorem iaL_succ {s : List (List Int)} {t : List Int} {B m : Nat} : iaL s t B (m + 1) = visM s t (vOf (tF t) B m) (iaL s t B m) := by
 unfold iaL visM
 rw [List.range_succ, List.map_append, List.filter_append, List.map_append]
 by_cases h : bd (InvP s t (mxF t.length (vOf (tF t) B m))) = true
 ·rw [if_pos h]; simp [h]
 ·rw [if_neg h]; simp [h]
theorem iaL_len {s : List (List Int)} {t : List Int} {B m : Nat} : (iaL s t B m).length ≤ m := by
 unfold iaL
 have := List.length_filter_le (fun u => bd (InvP s t (mxF t.length u))) ((List.range m).map (vOf (tF t) B))
 rw [List.length_map, List.length_range] at this
 rw [List.length_map]
 exact this
end Go.Pl
