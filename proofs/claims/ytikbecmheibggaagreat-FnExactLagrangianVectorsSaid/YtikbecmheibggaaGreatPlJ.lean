import Derived.Test.YtikbecmheibggaaGreatPlI
set_option linter.unusedSimpArgs false
set_option linter.unusedVariables false
namespace Go.Pl
open Go.Aw
theorem bd_and {p : Prop} {b : Bool} : bd (p ∧ b = true) = (bd p && b) := by
  by_cases h : p
  · cases b
    · have e : bd (p ∧ false = true) = false := bd_false (fun h => by cases h.2)
      rw [e]; simp
    · have e : bd (p ∧ true = true) = true := bd_true ⟨h, rfl⟩
      rw [e, bd_true h]; rfl
  · have e : bd (p ∧ b = true) = false := bd_false (fun hh => h hh.1)
    rw [e, bd_false h]; rfl
def Blk (m : List (List Int)) : Prop := (1 ≤ m.length ∧ m.length ≤ 16) ∧ ∀ i, i < m.length → 1 ≤ (m.getD i []).length ∧ (m.getD i []).length ≤ 16 ∧ (m.getD i []).length = (m.getD 0 []).length
def NumsM (m : List (List Int)) : Bool := !(m.any fun r => !(numsB r))
theorem numsM_iff {m : List (List Int)} : NumsM m = true ↔ ∀ i, i < m.length → numsB (m.getD i []) = true := by
  have h : (∀ x ∈ m, numsB x = true) ↔ ∀ i, i < m.length → numsB (m.getD i []) = true := all_getD
  rw [← h]
  unfold NumsM
  simp only [Bool.not_eq_true', List.any_eq_false, Bool.not_eq_true, Bool.not_eq_false', Bool.not_eq_false]
theorem shape_iff {s : List (List Int)} {t : List Int} : Shape s t ↔ ((Blk s ∧ NumsM s = true) ∧ s.length = (s.getD 0 []).length) ∧ t.length = s.length ∧ numsB t = true := by
  constructor
  · rintro ⟨h1, h2, ⟨h3, h4⟩, h5⟩
    have hl : ∀ i, i < s.length → (s.getD i []).length = t.length := fun i hi => (h4 i (by omega)).1
    refine ⟨⟨⟨⟨⟨by omega, by omega⟩, fun i hi => ?_⟩, numsM_iff.2 fun i hi => numsB_iff.2 fun j hj => (h4 i (by omega)).2 j (by rw [hl i hi] at hj; exact hj)⟩, ?_⟩, by omega, numsB_iff.2 h5⟩
    · rw [hl i hi, hl 0 (by omega)]; omega
    · rw [hl 0 (by omega)]; exact h3
  · rintro ⟨⟨⟨⟨⟨h1, h2⟩, h3⟩, h4⟩, h5⟩, h6, h7⟩
    have hl : ∀ i, i < t.length → (s.getD i []).length = t.length := fun i hi => by have := (h3 i (by omega)).2.2; omega
    exact ⟨by omega, by omega, ⟨by omega, fun i hi => ⟨hl i hi, fun j hj => numsB_iff.1 (numsM_iff.1 h4 i (by omega)) j (by rw [hl i hi]; exact hj)⟩⟩, numsB_iff.1 h7⟩
def apL (b : List (List Int)) (v : List Int) (n : Nat) : List Int := rowF n fun j => sumTo (fun k => v.getD k 0 * e2 b k j) n % 55441
theorem turnM_get {a : List (List Int)} {k : Nat} (h : k < (a.getD 0 []).length) : (turnM a).getD k [] = rowF a.length (fun i => e2 a i k) := by
  rw [turnM_matF, matF_get h]
theorem turnM_length (a : List (List Int)) : (turnM a).length = (a.getD 0 []).length := by rw [turnM_matF, matF_length]
theorem dot_col {b : List (List Int)} {v : List Int} {n j : Nat} : dotP (rowF n fun i => e2 b i j) v n = sumTo (fun k => v.getD k 0 * e2 b k j) n % 55441 := by
  unfold dotP
  congr 1
  refine sum_congr fun i hi => ?_
  unfold dotG
  rw [rowF_get hi, Int.mul_comm]
theorem sym_iff {s : List (List Int)} {n : Nat} (h1 : 1 ≤ n) (hs : MatP n s) : s = turnM s ↔ ∀ i, i < n → ∀ j, j < n → e2 s i j = e2 s j i := by
  have r0 := hs.row (show 0 < n by omega)
  have es : s = matF n n (fun i j => e2 s i j) := by
    apply List.ext_getElem
    · rw [matF_length, hs.1]
    · intro i h1 h2
      have hi : i < n := by rw [← hs.1]; exact h1
      rw [getD_at (d := []) h1, getD_at (d := []) h2, matF_get hi]
      apply List.ext_getElem
      · rw [rowF_length, hs.row hi]
      · intro j h3 h4
        have hj : j < n := by rw [← hs.row hi]; exact h3
        rw [getD_at (d := 0) h3, getD_at (d := 0) h4, rowF_get hj]
  have et : turnM s = matF n n (fun i j => e2 s j i) := by rw [turnM_matF, r0, hs.1]
  rw [et]
  constructor
  · intro h
    exact matF_inj.1 (es.symm.trans h)
  · intro h
    exact es.trans (matF_inj.2 h)
def diF (v : List Int) (n : Nat) : List (List Int) := matF n n fun i j => if i = j then v.getD i 0 else 0
def diS (v : List Int) (n k : Nat) : List (List Int) := matF n n fun i j => if i = j ∧ i < k then v.getD i 0 else 0
theorem diS_zero (v : List Int) (n : Nat) : diS v n 0 = List.replicate n (List.replicate n 0) := by
  rw [zeros_matF]
  exact matF_congr fun i _ j _ => if_neg (by omega)
theorem diS_all (v : List Int) (n : Nat) : diS v n n = diF v n := matF_congr fun i hi j _ => by
  by_cases h : i = j
  · rw [if_pos ⟨h, hi⟩, if_pos h]
  · rw [if_neg (fun e => h e.1), if_neg h]
theorem diS_set {v : List Int} {n k : Nat} (hk : k < n) : (diS v n k).set k (((diS v n k).getD k []).set k (v.getD k 0)) = diS v n (k + 1) := by
  unfold diS
  rw [matF_set hk]
  refine matF_congr fun i _ j _ => ?_
  by_cases h : i = k ∧ j = k
  · obtain ⟨rfl, rfl⟩ := h
    rw [if_pos ⟨rfl, rfl⟩, if_pos ⟨rfl, by omega⟩]
  · rw [if_neg h]
    by_cases h2 : i = j ∧ i < k
    · rw [if_pos h2, if_pos ⟨h2.1, by omega⟩]
    · rw [if_neg h2, if_neg (by omega)]
theorem diS_length (v : List Int) (n k : Nat) : (diS v n k).length = n := matF_length ..
theorem diS_row {v : List Int} {n k i : Nat} (h : i < n) : ((diS v n k).getD i []).length = n := by unfold diS; rw [matF_get h, rowF_length]
theorem diF_MatP {v : List Int} {n : Nat} (h : ∀ i, i < n → InP (v.getD i 0)) : MatP n (diF v n) := matF_MatP fun i hi j _ => by
  by_cases e : i = j
  · rw [if_pos e]; exact h i hi
  · rw [if_neg e]; exact ⟨by decide, by decide⟩
theorem mul_di (s : List (List Int)) (t : List Int) (n : Nat) : mulM s (diF t n) n = uD s t n := matF_congr fun i _ j hj => by
  congr 1
  have : sumTo (pG s (diF t n) i j) n = sumTo (fun k => if k = j then e2 s i k * t.getD k 0 else 0) n := sum_congr fun k hk => by
    unfold pG diF
    rw [matF_e2 hk hj]
    by_cases h : k = j
    · rw [if_pos h, if_pos h]
    · rw [if_neg h, if_neg h, Int.mul_zero]
  rw [this, sum_one (f := fun k => e2 s i k * t.getD k 0) hj]
def scF (m : List (List Int)) (g : Int) (n : Nat) : List (List Int) := matF n n fun i j => e2 m i j * g % 55441
theorem turn_iff (s : List (List Int)) (t : List Int) : cubeD s t t.length = scF (sqD s t.length) (gaussD s t t.length) t.length ↔ TurnP s t := by
  unfold scF TurnP cubeD mulM
  rw [matF_inj]
  constructor
  · intro h i hi j hj
    rw [matF_e2 hi hj, h i hi j hj, Int.mul_comm]
  · intro h i hi j hj
    have := h i hi j hj
    rw [matF_e2 hi hj] at this
    rw [this, Int.mul_comm]
theorem start_iff {s : List (List Int)} {t : List Int} (hs : Shape s t) : StartP s t ↔ ((((s = turnM s ∧ e2 s 0 0 = 1) ∧ t.getD 0 0 = 1) ∧ ((s.getD 0 []).any fun y => decide (y = 0)) = false) ∧ (t.any fun y => decide (y = 0)) = false) := by
  have h0 := hs.2.2.1.row (show 0 < t.length by have := hs.1; omega)
  have a0 : ((s.getD 0 []).any fun y => decide (y = 0)) = false ↔ ∀ i, i < t.length → e2 s 0 i ≠ 0 := by
    have h : (∀ x ∈ s.getD 0 [], x ≠ 0) ↔ ∀ i, i < (s.getD 0 []).length → (s.getD 0 []).getD i 0 ≠ 0 := all_getD
    rw [h0] at h
    rw [← h]
    simp only [List.any_eq_false, decide_eq_true_eq, ne_eq]
  have a1 : (t.any fun y => decide (y = 0)) = false ↔ ∀ i, i < t.length → t.getD i 0 ≠ 0 := by
    have h : (∀ x ∈ t, x ≠ 0) ↔ ∀ i, i < t.length → t.getD i 0 ≠ 0 := all_getD
    rw [← h]
    simp only [List.any_eq_false, decide_eq_true_eq, ne_eq]
  rw [a0, a1, sym_iff hs.1 hs.2.2.1]
  unfold StartP
  constructor
  · rintro ⟨k1, k2, k3, k4, k5⟩; exact ⟨⟨⟨⟨k1, k2⟩, k3⟩, k4⟩, k5⟩
  · rintro ⟨⟨⟨⟨k1, k2⟩, k3⟩, k4⟩, k5⟩; exact ⟨k1, k2, k3, k4, k5⟩
theorem take_map_succ {α β : Type} {f : α → β} {xs : List α} {d : α} {k : Nat} (h : k < xs.length) : (xs.take (k + 1)).map f = (xs.take k).map f ++ [f (xs.getD k d)] := by
  rw [List.take_succ_eq_append_getElem h, List.map_append]
  simp [List.getD, h]
def ivF (xs : List Int) : List Int := xs.map fun x => 1 * inv x % 55441
theorem ivF_length (xs : List Int) : (ivF xs).length = xs.length := by simp [ivF]
theorem ivF_get {xs : List Int} {i : Nat} (h : i < xs.length) : (ivF xs).getD i 0 = 1 * inv (xs.getD i 0) % 55441 := by simp [ivF, List.getD, h]
section
variable {s : List (List Int)} {t : List Int}
theorem cI_zero {n i k : Nat} (hi : i < n) (hk : k < n) (h : (k : Int) < cI s n i ∨ cI s n i < 0) : e2 (sqD s n) i k = 0 := by
  have hl := sq_row (s := s) hi
  have key : (fun x => !decide (x = (0 : Int))) (((sqD s n).getD i []).getD k 0) = false := by
    rcases h with h | h
    · have h0 : 0 ≤ cI s n i := by omega
      exact (fidx_at (d := (0 : Int)) (p := fun x => !decide (x = (0 : Int))) (xs := (sqD s n).getD i []) h0).2 k (by unfold cI at h; omega)
    · exact fidx_neg (d := (0 : Int)) (p := fun x => !decide (x = (0 : Int))) (xs := (sqD s n).getD i []) h k (by rw [hl]; exact hk)
  simpa using key
theorem good_iff {n i : Nat} (hi : i < n) : Good s n i ↔ 0 ≤ cI s n i ∧ e2 (sqD s n) i (cI s n i).toNat = wholeD s n ∧ ((((sqD s n).getD i []).drop ((cI s n i).toNat + 1)).any fun x => !decide (x = 0)) = false := by
  have hl := sq_row (s := s) hi
  have hc := cI_lt (s := s) hi
  unfold Good
  have hd : ((((sqD s n).getD i []).drop ((cI s n i).toNat + 1)).any fun x => !decide (x = 0)) = false ↔ ∀ k, k < n → (cI s n i).toNat < k → e2 (sqD s n) i k = 0 := by
    rw [List.any_eq_false]
    constructor
    · intro h k hk hck
      have hm : ((sqD s n).getD i []).getD k 0 ∈ ((sqD s n).getD i []).drop ((cI s n i).toNat + 1) := by
        rw [List.mem_drop_iff_getElem]
        refine ⟨k - ((cI s n i).toNat + 1), by rw [hl]; omega, ?_⟩
        have : (cI s n i).toNat + 1 + (k - ((cI s n i).toNat + 1)) = k := by omega
        simp only [this]
        exact getD_at (by rw [hl]; exact hk)
      have := h _ hm
      simpa using this
    · intro h x hx
      rw [List.mem_drop_iff_getElem] at hx
      obtain ⟨j, hj, rfl⟩ := hx
      rw [hl] at hj
      have h7 := h ((cI s n i).toNat + 1 + j) (by omega) (by omega)
      have hlt : (cI s n i).toNat + 1 + j < ((sqD s n).getD i []).length := by rw [hl]; omega
      simp only [e2] at h7
      rw [← getD_at hlt] at h7
      simp only [h7, decide_true, Bool.not_true, Bool.false_eq_true, not_false_eq_true]
  rw [hd]
  constructor
  · rintro ⟨h1, h2, h3⟩
    exact ⟨h1, h2, fun k hk hck => h3 k hk (by omega)⟩
  · rintro ⟨h1, h2, h3⟩
    refine ⟨h1, h2, fun k hk hne => ?_⟩
    by_cases h : k < (cI s n i).toNat
    · exact cI_zero hi hk (.inl (by omega))
    · exact h3 k hk (by omega)
end
end Go.Pl
