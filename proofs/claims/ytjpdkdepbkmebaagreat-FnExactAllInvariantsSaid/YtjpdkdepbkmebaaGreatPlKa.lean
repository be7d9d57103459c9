import Derived.Test.YtjpdkdepbkmebaaGreatPlX
import Derived.Test.YtjpdkdepbkmebaaGreatPl2
set_option linter.unusedSimpArgs false
set_option linter.unusedVariables false
namespace Go.Pl
open Go
def mxF (n : Nat) (v : List Int) : List (List Int) := matF n n fun i j => v.getD (i * n + j) 0
theorem getD_snoc {v : List Int} {a : Int} {k : Nat} : (v ++ [a]).getD k 0 = if k = v.length then a else v.getD k 0 := by
 rw [List.getD_eq_getElem?_getD, List.getD_eq_getElem?_getD, List.getElem?_append]
 by_cases h : k < v.length
 ·rw [if_pos h, if_neg (by omega)]
 ·rw [if_neg h]
  by_cases h2 : k = v.length
  ·rw [if_pos h2, h2, Nat.sub_self]; rfl
  ·rw [if_neg h2, List.getElem?_eq_none (l := [a]) (by simp only [List.length_cons, List.length_nil]; omega), List.getElem?_eq_none (by omega)]
theorem getD_snoc0 {v : List Int} {k : Nat} : (v ++ [0]).getD k 0 = v.getD k 0 := by
 rw [getD_snoc]
 by_cases h : k = v.length
 ·rw [if_pos h, List.getD_eq_getElem?_getD, List.getElem?_eq_none (by omega)]; rfl
 ·rw [if_neg h]
theorem mxF_snoc0 {n : Nat} {v : List Int} : mxF n (v ++ [0]) = mxF n v := matF_congr fun i _ j _ => getD_snoc0
theorem mxF_rep0 {n : Nat} {v : List Int} : ∀ x, mxF n (v ++ List.replicate x 0) = mxF n v
 | 0 => by simp
 | x + 1 => by rw [List.replicate_succ', ← List.append_assoc, mxF_snoc0, mxF_rep0 x]
theorem pl_dm {n i j : Nat} (hj : j < n) : (i * n + j) / n = i ∧ (i * n + j) % n = j := by
 have hn : 0 < n := by omega
 constructor
 ·rw [Nat.mul_comm, Nat.mul_add_div hn, Nat.div_eq_of_lt hj, Nat.add_zero]
 ·rw [Nat.mul_comm, Nat.mul_add_mod, Nat.mod_eq_of_lt hj]
theorem pl_eq {n p : Nat} : p / n * n + p % n = p := by rw [Nat.mul_comm]; exact Nat.div_add_mod p n
theorem pl_div {n p : Nat} (h : p < n * n) : p / n < n := Nat.div_lt_of_lt_mul h
theorem pl_mod {n p : Nat} (h : p < n * n) : p % n < n := Nat.mod_lt _ (by
 rcases Nat.eq_zero_or_pos n with h0 | h0
 ·rw [h0] at h; omega
 ·exact h0)
theorem mxF_set {n : Nat} {v : List Int} {a b : Int} (h : v.length < n * n) : (mxF n (v ++ [a])).set (v.length / n) (((mxF n (v ++ [a])).getD (v.length / n) []).set (v.length % n) b) = mxF n (v ++ [b]) := by
 unfold mxF
 rw [matF_set (pl_div h)]
 refine matF_congr fun i hi j hj => ?_
 rw [getD_snoc, getD_snoc]
 by_cases e : i * n + j = v.length
 ·have h2 := pl_dm (i := i) hj
  rw [if_pos ⟨by rw [← e]; exact h2.1.symm, by rw [← e]; exact h2.2.symm⟩, if_pos e]
 ·rw [if_neg (fun hh => e (by rw [hh.1, hh.2]; exact pl_eq)), if_neg e, if_neg e]
def tF (t : List Int) : List Int := rowF (t.length * t.length) fun p => if t.getD (p / t.length) 0 = t.getD (p % t.length) 0 then 1 else 0
theorem tF_length {t : List Int} : (tF t).length = t.length * t.length := rowF_length _ _
theorem fr_tF {t : List Int} {p : Nat} (h : p < t.length * t.length) (h1 : 1 ≤ p) : fr (tF t) p = decide (t.getD (p / t.length) 0 = t.getD (p % t.length) 0) := by
 unfold fr tF
 rw [rowF_get h, decide_eq_true h1, Bool.true_and]
 by_cases e : t.getD (p / t.length) 0 = t.getD (p % t.length) 0
 ·rw [if_pos e, decide_eq_true e, decide_eq_true rfl]
 ·rw [if_neg e, decide_eq_false e, decide_eq_false (by decide)]
theorem extV_skip {t : List Int} {B : Nat} : ∀ d v, ∃ x, x ≤ d ∧ (∀ y, y < x → fr t (v.length + y) = false) ∧ (x = d ∨ fr t (v.length + x) = true) ∧ extV t B d v = extV t B (d - x) (v ++ List.replicate x 0)
 | 0, v => ⟨0, Nat.le_refl _, fun y hy => absurd hy (by omega), .inl rfl, by simp⟩
 | d + 1, v => by
  cases hf : fr t v.length with
  | true => exact ⟨0, Nat.zero_le _, fun y hy => absurd hy (by omega), .inr hf, by simp⟩
  | false =>
   obtain ⟨x, h1, h2, h3, h4⟩ := extV_skip (t := t) (B := B) d (v ++ [0])
   rw [List.length_append, List.length_cons, List.length_nil] at h2 h3
   refine ⟨x + 1, by omega, fun y hy => ?_, ?_, ?_⟩
   ·cases y with
    | zero => exact hf
    | succ y => have := h2 y (by omega); rwa [show v.length + (0 + 1) + y = v.length + (y + 1) by omega] at this
   ·rcases h3 with h3 | h3
    ·exact .inl (by omega)
    ·exact .inr (by rwa [show v.length + (0 + 1) + x = v.length + (x + 1) by omega] at h3)
   ·rw [extV, hf, if_neg (by decide)]
    show List.flatMap _ [0] = _
    rw [List.flatMap_cons, List.flatMap_nil, List.append_nil]
    show extV t B d (v ++ [0]) = _
    rw [h4, Nat.add_sub_add_right, List.append_assoc]
    congr 2
noncomputable def visK (s : List (List Int)) (t u : List Int) (st : Option (List (List (List Int)))) : Option (List (List (List Int))) := if bd (InvP s t (mxF t.length u)) = true then some (st.getD [] ++ [mxF t.length u]) else st
noncomputable def runK (s : List (List Int)) (t : List Int) (us : List (List Int)) (st : Option (List (List (List Int)))) : Option (List (List (List Int))) := us.foldl (fun st u => visK s t u st) st
theorem runK_app {s : List (List Int)} {t : List Int} {us vs : List (List Int)} {st : Option (List (List (List Int)))} : runK s t (us ++ vs) st = runK s t vs (runK s t us st) := by
 unfold runK
 rw [List.foldl_append]
theorem runK_filter {s : List (List Int)} {t : List Int} : ∀ (us : List (List Int)) (st : Option (List (List (List Int)))), (runK s t us st).getD [] = st.getD [] ++ (us.filter fun u => bd (InvP s t (mxF t.length u))).map (mxF t.length)
 | [], st => by simp [runK]
 | u :: us, st => by
  show (runK s t us (visK s t u st)).getD [] = _
  rw [runK_filter us, List.filter_cons]
  unfold visK
  by_cases h : bd (InvP s t (mxF t.length u)) = true
  ·rw [if_pos h, if_pos h]; simp
  ·rw [if_neg h, if_neg h]
theorem runK_some {s : List (List Int)} {t : List Int} : ∀ (us : List (List Int)) (L : List (List (List Int))), ∃ L', runK s t us (some L) = some L'
 | [], L => ⟨L, rfl⟩
 | u :: us, L => by
  show ∃ L', runK s t us (visK s t u (some L)) = some L'
  unfold visK
  split
  ·exact runK_some us _
  ·exact runK_some us _
theorem runK_len {s : List (List Int)} {t : List Int} {us : List (List Int)} {st : Option (List (List (List Int)))} : ((runK s t us st).getD []).length ≤ (st.getD []).length + us.length := by
 rw [runK_filter, List.length_append, List.length_map]
 have := List.length_filter_le (fun u => bd (InvP s t (mxF t.length u))) us
 omega
end Go.Pl
