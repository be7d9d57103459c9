/-
  What it is to be an action; sums along diagonals. Of no program.
-/
import Derived.Test.YtkkgmjclfclaoaaPl1
set_option linter.unusedSimpArgs false
set_option linter.unusedVariables false
namespace Go.Pl
open Go.Aw

noncomputable def isAct (t a : List (List (List Int))) : Bool := bd (isRing t = true ∧ Fam t a ∧ actF t a = none)
theorem isAct_iff {t a : List (List (List Int))} : isAct t a = true ↔ isRing t = true ∧ Fam t a ∧ actF t a = none := bd_iff
theorem isAct_no {t a : List (List (List Int))} (h : ¬ (isRing t = true ∧ Fam t a ∧ actF t a = none)) : isAct t a = false := bd_false h
theorem isAct_ring {t a : List (List (List Int))} (h : isAct t a = true) : Cube t ∧ faultF t = none := isRing_true (isAct_iff.1 h).1
theorem isAct_fam {t a : List (List (List Int))} (h : isAct t a = true) : Fam t a := (isAct_iff.1 h).2.1

/-! ### Traces -/
def dg (m : List (List Int)) (x : Nat) : Int := e2 m x x
def trM (m : List (List Int)) : Int := sumTo (dg m) m.length
def trL (a : List (List (List Int))) : List Int := a.map trM
theorem dg_bd {n : Nat} {m : List (List Int)} (h : MatOk n m) : ∀ x, x < n → 0 ≤ dg m x ∧ dg m x ≤ 1000 := fun _ hx => h.inM hx hx
theorem take_succ_map {α β : Type} {f : α → β} {xs : List α} {d : α} {k : Nat} (h : k < xs.length) : (xs.take (k + 1)).map f = (xs.take k).map f ++ [f (xs.getD k d)] := by
  have h3 : xs[k]? = some (xs.getD k d) := by simp [List.getD, h]
  rw [List.take_add_one, h3]
  simp
theorem take_map_length {α β : Type} {f : α → β} {xs : List α} {k : Nat} (h : k ≤ xs.length) : ((xs.take k).map f).length = k := by simp; omega

noncomputable def trA (t a : List (List (List Int))) : AV := if isAct t a = true then .tup [.l1 (trL a), .int 0] else .tup [.nil, .int 1]

/-! ### Points -/
def ptB (a : List (List (List Int))) (x : Int) : Bool := decide (0 ≤ x) && decide (x ≤ ((a.getD 0 []).length : Int) - 1)
theorem ptB_iff {a : List (List (List Int))} {x : Int} : ptB a x = true ↔ 0 ≤ x ∧ x.toNat < (a.getD 0 []).length := by
  unfold ptB
  simp only [Bool.and_eq_true, decide_eq_true_eq]
  omega
def homL (a : List (List (List Int))) (x y : Int) : List Int := a.map fun m => e2 m y.toNat x.toNat
noncomputable def homA (t a : List (List (List Int))) (x y : Int) : AV := if isAct t a = true then (if ptB a x = true ∧ ptB a y = true then .tup [.l1 (homL a x y), .int 0] else .tup [.nil, .int 2]) else .tup [.nil, .int 1]

theorem trA_shape (t a : List (List (List Int))) : ∃ (u : Option (List Int)) (c : Int), trA t a = .tup [optA u, .int c] ∧ ∀ v, u = some v → v.length ≤ 1048576 := by
  unfold trA
  split
  · rename_i h
    refine ⟨some (trL a), 0, rfl, fun v hv => ?_⟩
    cases hv
    have h1 := (isAct_fam h).1
    have h2 := (isAct_ring h).1.2.1
    simp only [trL, List.length_map]; omega
  · exact ⟨none, 1, rfl, fun v hv => by cases hv⟩
theorem homA_shape (t a : List (List (List Int))) (x y : Int) : ∃ (u : Option (List Int)) (c : Int), homA t a x y = .tup [optA u, .int c] ∧ ∀ v, u = some v → v.length ≤ 1048576 := by
  unfold homA
  split
  · rename_i h
    split
    · refine ⟨some (homL a x y), 0, rfl, fun v hv => ?_⟩
      cases hv
      have h1 := (isAct_fam h).1
      have h2 := (isAct_ring h).1.2.1
      simp only [homL, List.length_map]; omega
    · exact ⟨none, 2, rfl, fun v hv => by cases hv⟩
  · exact ⟨none, 1, rfl, fun v hv => by cases hv⟩

/-! ### Acting on vectors -/
def inV (x : Int) : Prop := 0 ≤ x ∧ x ≤ 1000000
def vecB (v : List Int) : Bool := !(v.any fun n => !(decide (0 ≤ n) && decide (n ≤ 1000000)))
theorem vecB_iff {v : List Int} : vecB v = true ↔ ∀ i, i < v.length → inV (v.getD i 0) := by
  have h : (∀ x ∈ v, inV x) ↔ ∀ i, i < v.length → inV (v.getD i 0) := all_getD
  rw [← h]
  unfold vecB inV
  simp only [Bool.not_eq_true', List.any_eq_false, Bool.not_eq_true, Bool.not_eq_false', Bool.not_eq_false, Bool.and_eq_true, decide_eq_true_eq]
def lblB (t : List (List (List Int))) (i : Int) : Bool := decide (0 ≤ i) && decide (i ≤ (t.length : Int) - 1)
theorem lblB_iff {t : List (List (List Int))} {i : Int} : lblB t i = true ↔ 0 ≤ i ∧ i.toNat < t.length := by
  unfold lblB
  simp only [Bool.and_eq_true, decide_eq_true_eq]
  omega
def dot (v r : List Int) : Int := sumTo (dotG r v) r.length
theorem dot_bd {r v : List Int} {n : Nat} (hr : ∀ y, y < n → InM (r.getD y 0)) (hv : ∀ y, y < n → inV (v.getD y 0)) : ∀ y, y < n → 0 ≤ dotG r v y ∧ dotG r v y ≤ 1000000000 := fun y hy => by
  have h1 := hr y hy
  have h2 := hv y hy
  refine ⟨Int.mul_nonneg h1.1 h2.1, ?_⟩
  have h3 : dotG r v y ≤ 1000 * v.getD y 0 := Int.mul_le_mul_of_nonneg_right h1.2 h2.1
  have := h2.2
  omega
def actL (a : List (List (List Int))) (i : Int) (v : List Int) : List Int := (a.getD i.toNat []).map (dot v)
noncomputable def actA' (t a : List (List (List Int))) (i : Int) (v : List Int) : AV := if isAct t a = true then (if lblB t i = true ∧ v.length = (a.getD 0 []).length ∧ vecB v = true then .tup [.l1 (actL a i v), .int 0] else .tup [.nil, .int 2]) else .tup [.nil, .int 1]
theorem actA'_shape (t a : List (List (List Int))) (i : Int) (w : List Int) : ∃ (u : Option (List Int)) (c : Int), actA' t a i w = .tup [optA u, .int c] ∧ ∀ v, u = some v → v.length ≤ 1048576 := by
  unfold actA'
  split
  · rename_i h
    split
    · rename_i h'
      refine ⟨some (actL a i w), 0, rfl, fun v hv => ?_⟩
      cases hv
      have h0 := isAct_fam h
      have h1 := h0.2.2.2.1
      have h2 := (isAct_ring h).1.2.1
      have h3 := lblB_iff.1 h'.1
      have h4 := h0.1
      have h5 := h0.mat (show i.toNat < a.length by omega)
      simp only [actL, List.length_map]; omega
    · exact ⟨none, 2, rfl, fun v hv => by cases hv⟩
  · exact ⟨none, 1, rfl, fun v hv => by cases hv⟩

end Go.Pl
