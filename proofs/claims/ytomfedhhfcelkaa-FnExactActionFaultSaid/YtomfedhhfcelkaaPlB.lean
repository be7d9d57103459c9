/-
  Searches from the front; cubes, rings. Of no program.
-/
import Derived.Test.YtomfedhhfcelkaaPlA
set_option linter.unusedSimpArgs false
set_option linter.unusedVariables false
namespace Go.Pl

theorem all_getD {α : Type} {d : α} {xs : List α} {p : α → Prop} : (∀ x ∈ xs, p x) ↔ ∀ i, i < xs.length → p (xs.getD i d) := by
  constructor
  · intro h i hi
    have : xs.getD i d = xs[i] := by simp [List.getD, hi]
    rw [this]; exact h _ (List.getElem_mem hi)
  · intro h x hx
    obtain ⟨i, hi, rfl⟩ := List.mem_iff_getElem.1 hx
    have := h i hi
    simpa [List.getD, hi] using this

/-- The first index with a property, or -1. -/
def fidx {α : Type} (p : α → Bool) (xs : List α) : Int := match xs.findIdx? p with
  | some i => (i : Int)
  | none => -1
theorem fidx_none {α : Type} {d : α} {p : α → Bool} {xs : List α} (h : ∀ i, i < xs.length → p (xs.getD i d) = false) : fidx p xs = -1 := by
  have : xs.findIdx? p = none := by
    rw [List.findIdx?_eq_none_iff]
    exact (all_getD (d := d)).2 h
  simp [fidx, this]
theorem fidx_some {α : Type} {d : α} {p : α → Bool} {xs : List α} {k : Nat} (hk : k < xs.length) (h : ∀ i, i < k → p (xs.getD i d) = false) (hp : p (xs.getD k d) = true) : fidx p xs = k := by
  have : xs.findIdx? p = some k := by
    rw [List.findIdx?_eq_some_iff_getElem]
    refine ⟨hk, by simpa [List.getD, hk] using hp, fun j hj => ?_⟩
    have := h j hj
    have hl : j < xs.length := by omega
    simpa [List.getD, hl] using this
  simp [fidx, this]
theorem fidx_any {α : Type} {p : α → Bool} {xs : List α} : decide (fidx p xs ≥ 0) = xs.any p := by
  unfold fidx
  cases h : xs.findIdx? p with
  | none =>
    rw [List.findIdx?_eq_none_iff] at h
    have : xs.any p = false := by rw [List.any_eq_false]; exact fun x hx => by simp [h x hx]
    simp [this]
  | some i =>
    rw [List.findIdx?_eq_some_iff_getElem] at h
    obtain ⟨hi, hp, _⟩ := h
    have : xs.any p = true := List.any_eq_true.2 ⟨_, List.getElem_mem hi, hp⟩
    simp [this]

/-! ### Cubes -/
def InM (x : Int) : Prop := 0 ≤ x ∧ x ≤ 1000
def RowOk (n : Nat) (r : List Int) : Prop := r.length = n ∧ ∀ k, k < n → InM (r.getD k 0)
def MatOk (n : Nat) (m : List (List Int)) : Prop := m.length = n ∧ ∀ j, j < n → RowOk n (m.getD j [])
def Cube (t : List (List (List Int))) : Prop := 1 ≤ t.length ∧ t.length ≤ 16 ∧ ∀ i, i < t.length → MatOk t.length (t.getD i [])
abbrev e3 (t : List (List (List Int))) (i j k : Nat) : Int := ((t.getD i []).getD j []).getD k 0
abbrev e2 (m : List (List Int)) (i j : Nat) : Int := (m.getD i []).getD j 0

noncomputable def bd (p : Prop) : Bool := @decide p (Classical.propDecidable p)
theorem bd_true {p : Prop} (h : p) : bd p = true := by unfold bd; exact @decide_eq_true p (Classical.propDecidable p) h
theorem bd_false {p : Prop} (h : ¬ p) : bd p = false := by unfold bd; exact @decide_eq_false p (Classical.propDecidable p) h
theorem bd_iff {p : Prop} : bd p = true ↔ p := by unfold bd; exact @decide_eq_true_iff p (Classical.propDecidable p)

def rowBad (n : Int) (r : List Int) : Bool := (!decide ((r.length : Int) = n)) || !(!(r.any fun x => !(decide (0 ≤ x) && decide (x ≤ 1000))))
theorem rowBad_iff {n : Nat} {r : List Int} : rowBad n r = false ↔ RowOk n r := by
  have h : (∀ x ∈ r, InM x) ↔ ∀ k, k < r.length → InM (r.getD k 0) := all_getD
  unfold rowBad RowOk
  simp only [Bool.or_eq_false_iff, Bool.not_eq_false', decide_eq_true_eq, Bool.not_not, List.any_eq_false, Bool.not_eq_true', Bool.and_eq_false_iff, decide_eq_false_iff_not, Int.natCast_inj]
  constructor
  · rintro ⟨h1, h2⟩
    subst h1
    exact ⟨rfl, h.1 fun x hx => by have := h2 x hx; simp only [not_or, Decidable.not_not] at this; exact this⟩
  · rintro ⟨h1, h2⟩
    subst h1
    exact ⟨rfl, fun x hx => by have := h.2 h2 x hx; simp only [not_or, Decidable.not_not]; exact this⟩
theorem matOk_iff {n : Nat} {m : List (List Int)} : MatOk n m ↔ m.length = n ∧ m.any (rowBad n) = false := by
  have h : (∀ r ∈ m, RowOk n r) ↔ ∀ j, j < m.length → RowOk n (m.getD j []) := all_getD
  unfold MatOk
  constructor
  · rintro ⟨h1, h2⟩
    subst h1
    exact ⟨rfl, List.any_eq_false.2 fun r hr => by rw [rowBad_iff.2 (h.2 h2 r hr)]; simp⟩
  · rintro ⟨h1, h2⟩
    subst h1
    exact ⟨rfl, h.1 fun r hr => rowBad_iff.1 (by have := List.any_eq_false.1 h2 r hr; simpa using this)⟩

theorem Cube.row {t : List (List (List Int))} (h : Cube t) {i j : Nat} (hi : i < t.length) (hj : j < t.length) : ((t.getD i []).getD j []).length = t.length := ((h.2.2 i hi).2 j hj).1
theorem Cube.mat {t : List (List (List Int))} (h : Cube t) {i : Nat} (hi : i < t.length) : (t.getD i []).length = t.length := (h.2.2 i hi).1
theorem Cube.inM {t : List (List (List Int))} (h : Cube t) {i j k : Nat} (hi : i < t.length) (hj : j < t.length) (hk : k < t.length) : InM (e3 t i j k) := ((h.2.2 i hi).2 j hj).2 k hk
theorem range_drop {n k : Nat} (h : k < n) : (List.range n).drop k = k :: (List.range n).drop (k + 1) := by
  rw [List.drop_eq_getElem_cons (by simpa using h)]; simp
theorem range_done {n k : Nat} (h : ¬ k < n) : (List.range n).drop k = [] := List.drop_eq_nil_of_le (by simp; omega)

/-! ### Duals -/
def dualG (g : Nat → Int) : List Nat → Int → Int
  | [], out => out
  | j :: js, out => if g j = 0 then dualG g js out else if out < 0 ∧ g j = 1 then dualG g js j else -1
def dual (t : List (List (List Int))) (i : Nat) : Int := dualG (fun j => e3 t i j 0) (List.range t.length) (-1)
theorem dualG_range {g : Nat → Int} {n : Nat} : ∀ (l : List Nat) (out : Int), (∀ j ∈ l, j < n) → -1 ≤ out → out < n → -1 ≤ dualG g l out ∧ dualG g l out < n
  | [], out, _, h1, h2 => ⟨h1, h2⟩
  | j :: js, out, hl, h1, h2 => by
    have hj := hl j (List.mem_cons_self ..)
    have ih := fun o => dualG_range (g := g) (n := n) js o (fun j hj => hl j (List.mem_cons_of_mem _ hj))
    simp only [dualG]
    split
    · exact ih out h1 h2
    · split
      · exact ih j (by omega) (by omega)
      · exact ⟨by omega, by omega⟩
theorem dual_range (t : List (List (List Int))) (i : Nat) : -1 ≤ dual t i ∧ dual t i < t.length := by
  by_cases h : 0 < t.length
  · exact dualG_range _ _ (by simp) (by omega) (by omega)
  · have : t = [] := by cases t <;> simp at h ⊢
    subst this
    simp [dual, dualG]

end Go.Pl
