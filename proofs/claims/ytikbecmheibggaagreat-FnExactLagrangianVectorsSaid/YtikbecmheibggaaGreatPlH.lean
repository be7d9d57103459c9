import Derived.Test.YtikbecmheibggaaGreatPlG
set_option linter.unusedSimpArgs false
set_option linter.unusedVariables false
namespace Go.Pl
open Go.Aw
def numsB (xs : List Int) : Bool := !(xs.any fun n => !(decide (0 ≤ n) && decide (n ≤ 55440)))
theorem numsB_iff {xs : List Int} : numsB xs = true ↔ ∀ i, i < xs.length → InP (xs.getD i 0) := by
  have h : (∀ x ∈ xs, InP x) ↔ ∀ i, i < xs.length → InP (xs.getD i 0) := all_getD
  rw [← h]
  unfold numsB InP
  simp only [Bool.not_eq_true', List.any_eq_false, Bool.not_eq_true, Bool.not_eq_false', Bool.not_eq_false, Bool.and_eq_true, decide_eq_true_eq]
def dotP (x y : List Int) (n : Nat) : Int := sumTo (dotG x y) n % 55441
theorem fidx_lt {α : Type} {p : α → Bool} {xs : List α} : -1 ≤ fidx p xs ∧ fidx p xs < xs.length := by
  unfold fidx
  cases h : xs.findIdx? p with
  | none => simp only; omega
  | some i =>
    rw [List.findIdx?_eq_some_iff_getElem] at h
    obtain ⟨hi, _, _⟩ := h
    simp only; omega
theorem fidx_at {α : Type} {d : α} {p : α → Bool} {xs : List α} (h : 0 ≤ fidx p xs) : p (xs.getD (fidx p xs).toNat d) = true ∧ ∀ j, j < (fidx p xs).toNat → p (xs.getD j d) = false := by
  unfold fidx at h ⊢
  cases hf : xs.findIdx? p with
  | none => rw [hf] at h; simp at h
  | some i =>
    rw [List.findIdx?_eq_some_iff_getElem] at hf
    obtain ⟨hi, hp, hj⟩ := hf
    simp only [Int.toNat_natCast]
    refine ⟨by simpa [List.getD, hi] using hp, fun j hj' => ?_⟩
    have h2 := hj j hj'
    have hjl : j < xs.length := by omega
    simpa [List.getD, hjl] using h2
theorem fidx_neg {α : Type} {d : α} {p : α → Bool} {xs : List α} (h : fidx p xs < 0) : ∀ j, j < xs.length → p (xs.getD j d) = false := by
  unfold fidx at h
  cases hf : xs.findIdx? p with
  | some i => rw [hf] at h; simp only at h; omega
  | none =>
    rw [List.findIdx?_eq_none_iff] at hf
    exact (all_getD (d := d)).1 hf
theorem fidx_uniq {α : Type} {d : α} {p : α → Bool} {xs : List α} {c : Nat} (hc : c < xs.length) (hp : p (xs.getD c d) = true) (h : ∀ j, j < xs.length → j ≠ c → p (xs.getD j d) = false) : fidx p xs = c :=
  fidx_some (d := d) hc (fun i hi => h i (by omega) (by omega)) hp
section
variable {s : List (List Int)} {t : List Int}
def aI (s : List (List Int)) (n i : Nat) : Int := fidx (fun x => decide (x = wholeD s n)) ((sqD s n).getD i [])
def Sp (s : List (List Int)) (t : List Int) (i : Nat) : Prop := Good s t.length i ∧ (∀ j, j < i → cI s t.length j ≠ cI s t.length i) ∧ t.getD (cI s t.length i).toNat 0 = t.getD i 0
theorem sq_row {n i : Nat} (hi : i < n) : ((sqD s n).getD i []).length = n := (mulM_MatP s s n).row hi
theorem cI_lt {n i : Nat} (hi : i < n) : -1 ≤ cI s n i ∧ cI s n i < n := by
  have := fidx_lt (p := fun x => !decide (x = (0 : Int))) (xs := (sqD s n).getD i [])
  rw [sq_row hi] at this
  exact this
theorem aI_lt {n i : Nat} (hi : i < n) : -1 ≤ aI s n i ∧ aI s n i < n := by
  have := fidx_lt (p := fun x => decide (x = wholeD s n)) (xs := (sqD s n).getD i [])
  rw [sq_row hi] at this
  exact this
theorem good_aI {n i : Nat} (hi : i < n) (hw : wholeD s n ≠ 0) (h : Good s n i) : aI s n i = cI s n i := by
  have hl := sq_row (s := s) hi
  have h3 := cI_lt (s := s) hi
  have h4 : ((cI s n i).toNat : Int) = cI s n i := Int.toNat_of_nonneg h.1
  unfold aI
  rw [fidx_uniq (d := 0) (c := (cI s n i).toNat) (by rw [hl]; omega) (by simp only [decide_eq_true_eq]; exact h.2.1) (fun j hj hne => by
    rw [hl] at hj
    have := h.2.2 j hj hne
    simp only [e2] at this
    simp only [this, decide_eq_false_iff_not]
    exact fun e => hw e.symm)]
  exact h4
theorem good_of {n i : Nat} (hi : i < n) (hw : wholeD s n ≠ 0) (h0 : 0 ≤ aI s n i) (hz : ∀ k, k < n → (k : Int) ≠ aI s n i → e2 (sqD s n) i k = 0) : cI s n i = aI s n i ∧ Good s n i := by
  have hl := sq_row (s := s) hi
  have h3 := aI_lt (s := s) hi
  have h4 : ((aI s n i).toNat : Int) = aI s n i := Int.toNat_of_nonneg h0
  have h5 := (fidx_at (d := (0 : Int)) (p := fun x => decide (x = wholeD s n)) (xs := (sqD s n).getD i []) h0).1
  simp only [decide_eq_true_eq] at h5
  have h6 : cI s n i = (aI s n i).toNat := by
    unfold cI
    refine fidx_uniq (d := 0) (by rw [hl]; omega) ?_ (fun j hj hne => ?_)
    · simp only [Bool.not_eq_true', decide_eq_false_iff_not]
      intro e
      exact hw (h5.symm.trans e)
    · rw [hl] at hj
      have := hz j hj (by omega)
      simp only [e2] at this
      simp only [this, decide_true, Bool.not_true]
  have h7 : cI s n i = aI s n i := h6.trans h4
  refine ⟨h7, by omega, ?_, fun k hk hne => hz k hk (by omega)⟩
  rw [h7]
  exact h5
theorem cj_some (h : ∀ i, i < t.length → Sp s t i) (h0 : 0 < t.length → cI s t.length 0 = 0) : cj s t = some (cL s t.length) := by
  unfold cj
  rw [if_pos]
  intro i hi
  have hi' := h i hi
  refine ⟨hi'.1, hi'.2.1, hi'.2.2, ⟨fun e => by subst e; exact h0 hi, fun e => ?_⟩⟩
  by_cases hz : i = 0
  · exact hz
  · exact absurd ((h0 (by omega)).trans e.symm) (hi'.2.1 0 (by omega))
theorem cj_none_sp {i : Nat} (hi : i < t.length) (h : ¬ Sp s t i) : cj s t = none := by
  unfold cj
  rw [if_neg]
  intro hh
  have := hh i hi
  exact h ⟨this.1, this.2.1, this.2.2.1⟩
theorem cj_none_0 (hi : 0 < t.length) (h : cI s t.length 0 ≠ 0) : cj s t = none := by
  unfold cj
  rw [if_neg]
  intro hh
  exact h ((hh 0 hi).2.2.2.1 rfl)
theorem cj_none_st {i : Nat} (hi : i < t.length) (h : ¬ StepOk s t i) : cj s t = none := by
  unfold cj
  rw [if_neg]
  exact fun hh => h (hh i hi)
theorem cj_some_st (h : ∀ i, i < t.length → StepOk s t i) : cj s t = some (cL s t.length) := by
  unfold cj
  rw [if_pos h]
theorem cj_get {c : List Int} (h : cj s t = some c) : c = cL s t.length ∧ ∀ i, i < t.length → StepOk s t i := by
  unfold cj at h
  split at h
  · rename_i hh
    cases h
    exact ⟨rfl, hh⟩
  · cases h
theorem cL_length (n : Nat) : (cL s n).length = n := by simp [cL]
theorem cL_get {n i : Nat} (h : i < n) : (cL s n).getD i 0 = cI s n i := by simp [cL, List.getD, h]
theorem any_cI {n i : Nat} {x : Int} : ((List.range i).map (cI s n)).any (fun y => decide (y = x)) = true ↔ ∃ j, j < i ∧ cI s n j = x := by
  simp [List.any_eq_true]
end
end Go.Pl
