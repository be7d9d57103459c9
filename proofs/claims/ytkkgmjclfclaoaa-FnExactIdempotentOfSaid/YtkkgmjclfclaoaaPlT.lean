/-
  Characters of a ring and their idempotents. Of no program.
-/
import Derived.Test.YtkkgmjclfclaoaaPlL
import Derived.Test.YtkkgmjclfclaoaaPlF
set_option linter.unusedSimpArgs false
set_option linter.unusedVariables false
namespace Go.Pl
open Go.Aw

theorem ext_getD {α : Type} {d : α} {xs ys : List α} (hl : xs.length = ys.length) (h : ∀ i, i < xs.length → xs.getD i d = ys.getD i d) : xs = ys := by
  apply List.ext_getElem hl
  intro i h1 h2
  have := h i h1
  simpa [List.getD, List.getElem?_eq_getElem h1, List.getElem?_eq_getElem h2] using this

/-- The labels commute. -/
def CommP (t : List (List (List Int))) : Prop := ∀ i, i < t.length → ∀ j, j < t.length → (t.getD i []).getD j [] = (t.getD j []).getD i []
def oppR (t : List (List (List Int))) (i j : Nat) : List (List Int) := (List.range j).map fun j => (t.getD j []).getD i []
def oppL (t : List (List (List Int))) (i : Nat) : List (List (List Int)) := (List.range i).map fun i => oppR t i t.length
theorem oppR_length {t : List (List (List Int))} {i j : Nat} : (oppR t i j).length = j := by simp [oppR]
theorem oppL_length {t : List (List (List Int))} {i : Nat} : (oppL t i).length = i := by simp [oppL]
theorem oppR_succ {t : List (List (List Int))} {i j : Nat} : oppR t i (j + 1) = oppR t i j ++ [(t.getD j []).getD i []] := by simp [oppR, List.range_succ]
theorem oppL_succ {t : List (List (List Int))} {i : Nat} : oppL t (i + 1) = oppL t i ++ [oppR t i t.length] := by simp [oppL, List.range_succ]
theorem oppL_get {t : List (List (List Int))} {i n : Nat} (h : i < n) : (oppL t n).getD i [] = oppR t i t.length := by simp [oppL, List.getD, h]
theorem oppR_get {t : List (List (List Int))} {i j n : Nat} (h : j < n) : (oppR t i n).getD j [] = (t.getD j []).getD i [] := by simp [oppR, List.getD, h]
theorem comm_iff {t : List (List (List Int))} (hc : Cube t) : CommP t ↔ t = oppL t t.length := by
  constructor
  · intro h
    refine ext_getD (d := []) oppL_length.symm (fun i hi => ?_)
    have hm := hc.2.2 i hi
    refine ext_getD (d := []) (by rw [oppL_get hi, oppR_length]; exact hm.1) (fun j hj => ?_)
    rw [hm.1] at hj
    rw [oppL_get hi, oppR_get hj]
    exact h i hi j hj
  · intro h i hi j hj
    have e : (t.getD i []).getD j [] = ((oppL t t.length).getD i []).getD j [] := by rw [← h]
    rw [e, oppL_get hi, oppR_get hj]

/-- A list of numbers is a character. -/
def ListP (t : List (List (List Int))) (x : List Int) : Prop := x.length = t.length ∧ numsB x = true
def MulP (t : List (List (List Int))) (x : List Int) : Prop := ∀ i, i < t.length → ∀ j, j < t.length → dotP ((t.getD i []).getD j []) x t.length = x.getD i 0 * x.getD j 0 % 55441
def CharP (t : List (List (List Int))) (x : List Int) : Prop := MulP t x ∧ x.getD 0 0 = 1
theorem ListP.inP {t : List (List (List Int))} {x : List Int} (h : ListP t x) : ∀ i, i < t.length → InP (x.getD i 0) := fun i hi => numsB_iff.1 h.2 i (by rw [h.1]; exact hi)
theorem Cube.rowP {t : List (List (List Int))} (h : Cube t) {i j : Nat} (hi : i < t.length) (hj : j < t.length) : ((t.getD i []).getD j []).length = t.length ∧ ∀ k, k < t.length → InP (((t.getD i []).getD j []).getD k 0) := by
  have hm := h.2.2 i hi
  refine ⟨hm.row hj, fun k hk => ?_⟩
  have := (hm.2 j hj).2 k hk
  unfold InM at this
  unfold InP
  omega

noncomputable def codeA (t : List (List (List Int))) : Int := if isRing t = true then (if bd (CommP t) = true then 0 else 5) else 1
noncomputable def charC (t : List (List (List Int))) (x : List Int) : Int := if codeA t = 0 then (if bd (ListP t x ∧ CharP t x) = true then 0 else 2) else codeA t
/-- What a list has at duals. -/
def tnL (t : List (List (List Int))) (x : List Int) : List Int := (ds t).map fun k => x.getD k.toNat 0
def pairN (t : List (List (List Int))) (x : List Int) : Int := dotP x (tnL t x) t.length
def idL (t : List (List (List Int))) (x : List Int) : List Int := (tnL t x).map fun v => v * inv (pairN t x) % 55441
noncomputable def idemA (t : List (List (List Int))) (x : List Int) : AV := if charC t x = 0 then (if pairN t x = 0 then .tup [.nil, .int 5] else .tup [.l1 (idL t x), .int 0]) else .tup [.nil, .int (charC t x)]
theorem tnL_length {t : List (List (List Int))} {x : List Int} : (tnL t x).length = t.length := by simp [tnL, ds_length]
theorem charC_zero {t : List (List (List Int))} {x : List Int} (h : charC t x = 0) : isRing t = true ∧ CommP t ∧ ListP t x ∧ CharP t x := by
  unfold charC codeA at h
  by_cases h1 : isRing t = true
  · by_cases h2 : bd (CommP t) = true
    · by_cases h3 : bd (ListP t x ∧ CharP t x) = true
      · have := bd_iff.1 h3
        exact ⟨h1, bd_iff.1 h2, this.1, this.2⟩
      · rw [if_pos h1, if_pos h2, if_pos rfl, if_neg h3] at h; omega
    · rw [if_pos h1, if_neg h2, if_neg (by omega)] at h; omega
  · rw [if_neg h1, if_neg (by omega)] at h; omega
theorem tnL_get {t : List (List (List Int))} {x : List Int} {i : Nat} (h : i < t.length) : (tnL t x).getD i 0 = x.getD (dual t i).toNat 0 := by
  have := ds_get h
  unfold tnL
  simp only [List.getD, List.getElem?_map] at this ⊢
  rw [List.getElem?_eq_getElem (by rw [ds_length]; exact h)] at this ⊢
  simp only [Option.getD_some, Option.map_some] at this ⊢
  rw [this]
theorem tnL_inP {t : List (List (List Int))} {x : List Int} (hf : faultF t = none) (hx : ListP t x) : ∀ i, i < t.length → InP ((tnL t x).getD i 0) := fun i hi => by
  rw [tnL_get hi]
  exact hx.inP _ (dual_ok (faultF_dual hf) hi).2.1
theorem pairN_inP {t : List (List (List Int))} {x : List Int} : InP (pairN t x) := dotP_InP _ _ _
theorem map_step {f : Int → Int} {L : List Int} {i : Nat} (h : i < L.length) : ((L.take i).map f ++ L.drop i).getD i 0 = L.getD i 0 ∧ ((L.take i).map f ++ L.drop i).set i (f (L.getD i 0)) = (L.take (i + 1)).map f ++ L.drop (i + 1) := by
  have hl : ((L.take i).map f).length = i := by simp; omega
  have hd : L.drop i = L.getD i 0 :: L.drop (i + 1) := by
    rw [List.drop_eq_getElem_cons h, List.getD_eq_getElem?_getD, List.getElem?_eq_getElem h]; rfl
  constructor
  · rw [hd, List.getD_eq_getElem?_getD, List.getElem?_append_right (by omega), hl, Nat.sub_self]; rfl
  · rw [hd, List.set_append_right _ _ (by omega), hl, Nat.sub_self, List.set_cons_zero, take_succ_map (d := 0) h, List.append_assoc]; rfl
theorem map_len {f : Int → Int} {L : List Int} {i : Nat} (h : i ≤ L.length) : ((L.take i).map f ++ L.drop i).length = L.length := by simp; omega
theorem idemA_shape (t : List (List (List Int))) (x : List Int) : ∃ (u : Option (List Int)) (c : Int), idemA t x = .tup [optA u, .int c] ∧ ∀ v, u = some v → v.length ≤ 1048576 := by
  unfold idemA
  split
  · rename_i h
    obtain ⟨r1, r2, r3, r4⟩ := charC_zero h
    have h16 := (isRing_true r1).1.2.1
    split
    · exact ⟨none, 5, rfl, fun _ h => by cases h⟩
    · exact ⟨some (idL t x), 0, rfl, fun v hv => by cases hv; rw [show (idL t x).length = t.length by simp [idL, tnL_length]]; omega⟩
  · exact ⟨none, _, rfl, fun _ h => by cases h⟩
end Go.Pl
