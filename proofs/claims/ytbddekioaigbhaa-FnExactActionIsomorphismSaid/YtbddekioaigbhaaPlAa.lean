/-
  Refining with any marks. Of no program.
-/
import Derived.Test.YtbddekioaigbhaaPl4
set_option linter.unusedSimpArgs false
set_option linter.unusedVariables false
namespace Go.Pl
open Go

/-! ### Refining -/
section
variable (n : Nat) (mA mB : List Int → Nat → List Int)
def msG (f g : List Int) (i : Nat) : List (List Int) := (List.range i).map fun j => if j < n then mA f j else mB g (j - n)
def stepG (f g : List Int) : Option (List Int × List Int × Nat) :=
  if balB n (msG n mA mB f g (2 * n)) = true then some ((colsF (msG n mA mB f g (2 * n)) (2 * n)).take n, (colsF (msG n mA mB f g (2 * n)) (2 * n)).drop n, (kindsF (msG n mA mB f g (2 * n))).length) else none
def refG : Nat → Nat → List Int → List Int → Option (List Int × List Int)
  | 0, _, f, g => some (f, g)
  | fuel + 1, number, f, g => match stepG n mA mB f g with
    | none => none
    | some (f', g', k) => if k = number then some (f', g') else refG fuel k f' g'
end
section
variable {n L : Nat} {mA mB : List Int → Nat → List Int} {f g : List Int}
theorem msG_len {i : Nat} : (msG n mA mB f g i).length = i := by simp [msG]
theorem msG_succ {i : Nat} : msG n mA mB f g (i + 1) = msG n mA mB f g i ++ [if i < n then mA f i else mB g (i - n)] := by
  unfold msG
  rw [List.range_succ, List.map_append]
  rfl
theorem msG_get {i L : Nat} (h : i < L) : (msG n mA mB f g L).getD i [] = if i < n then mA f i else mB g (i - n) := by simp [msG, List.getD, h]
theorem msG_SL (hA : ∀ f x, SL L (mA f x)) (hB : ∀ f x, SL L (mB f x)) {k : Nat} : ∀ m ∈ msG n mA mB f g k, SL L m := fun m hm => by
  obtain ⟨i, _, rfl⟩ := List.mem_map.1 hm
  split
  · exact hA _ _
  · exact hB _ _
theorem stepG_some (hA : ∀ f x, SL L (mA f x)) (hB : ∀ f x, SL L (mB f x)) {f' g' : List Int} {k : Nat} (h : stepG n mA mB f g = some (f', g', k)) (h16 : n ≤ 16) : ColOk n f' ∧ ColOk n g' ∧ UsedP n f' g' k ∧ k ≤ 2 * n := by
  unfold stepG at h
  split at h
  · cases h
    have hl := msG_len (n := n) (mA := mA) (mB := mB) (f := f) (g := g) (i := 2 * n)
    have hS := msG_SL (n := n) (f := f) (g := g) hA hB (k := 2 * n)
    obtain ⟨ms, ems⟩ : ∃ ms, msG n mA mB f g (2 * n) = ms := ⟨_, rfl⟩
    rw [ems] at hl hS ⊢
    have hk := kindsF_len hS
    have hc : ∀ i, i < 2 * n → 0 ≤ (colsF ms (2 * n)).getD i 0 ∧ (colsF ms (2 * n)).getD i 0 ≤ 60 := fun i hi => by
      rw [colsF_get hi (by omega)]
      have hm : ms.getD i [] ∈ ms := by
        rw [List.getD_eq_getElem?_getD, List.getElem?_eq_getElem (by omega)]
        exact List.getElem_mem _
      have := (colI_spec ((kindsF_mem hS).2 hm)).1
      omega
    have hcl := colsF_len (ms := ms) (i := 2 * n) (by omega)
    refine ⟨⟨by rw [List.length_take, hcl]; omega, fun x hx => by rw [ls_take hx]; exact hc x (by omega)⟩, ⟨by rw [List.length_drop, hcl]; omega, fun x hx => by rw [ls_drop]; exact hc (n + x) (by omega)⟩, fun c hck => ?_, by omega⟩
    have hm : (kindsF ms).getD c [] ∈ ms := by
      refine (kindsF_mem hS).1 ?_
      rw [List.getD_eq_getElem?_getD, List.getElem?_eq_getElem hck]
      exact List.getElem_mem _
    obtain ⟨i, hi, e⟩ := List.getElem_of_mem hm
    have e2 : ms.getD i [] = (kindsF ms).getD c [] := by
      rw [List.getD_eq_getElem?_getD, List.getElem?_eq_getElem hi]
      exact e
    have hv : (colsF ms (2 * n)).getD i 0 = (c : Int) := by
      rw [colsF_get (by omega) (by omega), e2, colI_nodup (kindsF_nodup hS) hck]
    by_cases hin : i < n
    · exact ⟨i, hin, .inl (by rw [ls_take hin]; exact hv)⟩
    · exact ⟨i - n, by omega, .inr (by rw [ls_drop, show n + (i - n) = i by omega]; exact hv)⟩
  · cases h
theorem stepG_grow (hA : ∀ f x, SL L (mA f x)) (hB : ∀ f x, SL L (mB f x)) (hA0 : ∀ f x, (mA f x).getD 0 0 = f.getD x 0) (hB0 : ∀ f x, (mB f x).getD 0 0 = f.getD x 0) {f' g' : List Int} {k number : Nat} (h : stepG n mA mB f g = some (f', g', k)) (hu : UsedP n f g number) : number ≤ k := by
  unfold stepG at h
  split at h
  · cases h
    have hS := msG_SL (n := n) (f := f) (g := g) hA hB (k := 2 * n)
    have key : ((List.range number).map fun c => ((c : Nat) : Int)).length ≤ ((kindsF (msG n mA mB f g (2 * n))).map fun m => m.getD 0 0).length := by
      refine List.Nodup.length_le_of_subset ?_ ?_
      · rw [List.Nodup, List.pairwise_map]
        exact List.nodup_range.imp (fun h e => h (by omega))
      · intro c hc
        obtain ⟨c0, hc0, rfl⟩ := List.mem_map.1 hc
        obtain ⟨x, hx, he⟩ := hu c0 (List.mem_range.1 hc0)
        refine List.mem_map.2 ?_
        rcases he with he | he
        · refine ⟨mA f x, (kindsF_mem hS).2 (List.mem_map.2 ⟨x, List.mem_range.2 (by omega), by rw [if_pos hx]⟩), ?_⟩
          rw [← he]; exact hA0 _ _
        · refine ⟨mB g x, (kindsF_mem hS).2 (List.mem_map.2 ⟨n + x, List.mem_range.2 (by omega), by rw [if_neg (by omega), Nat.add_sub_cancel_left]⟩), ?_⟩
          rw [← he]; exact hB0 _ _
    simpa using key
  · cases h

theorem stepG_iso {q : List Int} (hq : IsP n q) (hmk : ∀ x, x < n → mA f x = mB g (q.getD x 0).toNat) : ∃ f' g' k, stepG n mA mB f g = some (f', g', k) ∧ KP n f' g' q := by
  have hl := msG_len (n := n) (mA := mA) (mB := mB) (f := f) (g := g) (i := 2 * n)
  have hg := fun i (h : i < 2 * n) => msG_get (n := n) (mA := mA) (mB := mB) (f := f) (g := g) h
  unfold stepG
  obtain ⟨ms, ems⟩ : ∃ ms, msG n mA mB f g (2 * n) = ms := ⟨_, rfl⟩
  rw [ems] at hl hg ⊢
  have hcl := colsF_len (ms := ms) (i := 2 * n) (by omega)
  have hA : ∀ x, x < n → ((colsF ms (2 * n)).take n).getD x 0 = ((colI (kindsF ms) (mA f x) : Nat) : Int) := fun x hx => by
    rw [ls_take hx, colsF_get (by omega) (by omega), hg x (by omega), if_pos hx]
  have hB : ∀ x, x < n → ((colsF ms (2 * n)).drop n).getD x 0 = ((colI (kindsF ms) (mB g x) : Nat) : Int) := fun x hx => by
    rw [ls_drop, colsF_get (by omega) (by omega), hg (n + x) (by omega), if_neg (by omega), Nat.add_sub_cancel_left]
  have hK : KP n ((colsF ms (2 * n)).take n) ((colsF ms (2 * n)).drop n) q := fun x hx => by
    have hqx := hq.q x (by rw [hq.len]; exact hx)
    rw [hA x hx, hB _ (by omega), hmk x hx]
  have eA : (colsF ms (2 * n)).take n = rowF n (fun x => (fun y => ((colI (kindsF ms) (mB g y) : Nat) : Int)) (q.getD x 0).toNat) := by
    refine ext_getD (d := 0) (by rw [List.length_take, hcl, rowF_length]; omega) (fun x hx => ?_)
    have hx : x < n := by rw [List.length_take, hcl] at hx; omega
    rw [rowF_get hx, hA x hx, hmk x hx]
  have eB : (colsF ms (2 * n)).drop n = rowF n (fun y => ((colI (kindsF ms) (mB g y) : Nat) : Int)) := by
    refine ext_getD (d := 0) (by rw [List.length_drop, hcl, rowF_length]; omega) (fun x hx => ?_)
    have hx : x < n := by rw [List.length_drop, hcl] at hx; omega
    rw [rowF_get hx, hB x hx]
  have hbal : balB n ms = true := by
    unfold balB
    rw [List.all_eq_true]
    intro c _
    refine decide_eq_true ?_
    unfold cntD
    rw [hl, eA, eB, (perm_row hq (fun y => ((colI (kindsF ms) (mB g y) : Nat) : Int))).count_eq]
    omega
  rw [if_pos hbal]
  exact ⟨_, _, _, rfl, hK⟩
theorem refG_iso (hA : ∀ f x, SL L (mA f x)) (hB : ∀ f x, SL L (mB f x)) {q : List Int} (hq : IsP n q) (hmk : ∀ f g, KP n f g q → ∀ x, x < n → mA f x = mB g (q.getD x 0).toNat) : ∀ (fuel number : Nat) (f g : List Int), KP n f g q → ∃ f' g', refG n mA mB fuel number f g = some (f', g') ∧ KP n f' g' q
  | 0, _, f, g, hk => ⟨f, g, rfl, hk⟩
  | fuel + 1, number, f, g, hk => by
    obtain ⟨f', g', k, e, hk'⟩ := stepG_iso hq (hmk f g hk)
    rw [refG, e]
    simp only
    split
    · exact ⟨f', g', rfl, hk'⟩
    · exact refG_iso hA hB hq hmk fuel k f' g' hk'
theorem refG_col (hA : ∀ f x, SL L (mA f x)) (hB : ∀ f x, SL L (mB f x)) (h16 : n ≤ 16) : ∀ (fuel number : Nat) (f g f' g' : List Int), ColOk n f → ColOk n g → refG n mA mB fuel number f g = some (f', g') → ColOk n f' ∧ ColOk n g'
  | 0, _, f, g, f', g', hf, hg, h => by
    rw [refG] at h
    cases h
    exact ⟨hf, hg⟩
  | fuel + 1, number, f, g, f', g', hf, hg, h => by
    rw [refG] at h
    cases e : stepG n mA mB f g with
    | none => rw [e] at h; cases h
    | some r =>
      obtain ⟨f1, g1, k⟩ := r
      obtain ⟨h1, h2, _⟩ := stepG_some hA hB e h16
      rw [e] at h
      simp only at h
      split at h
      · cases h; exact ⟨h1, h2⟩
      · exact refG_col hA hB h16 fuel k f1 g1 f' g' h1 h2 h
end
end Go.Pl
