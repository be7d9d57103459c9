/-
  The step of refining, told as the reference's marks of actions go. Of no program.
-/
import Derived.Test.YtbddekioaigbhaaPlAc
set_option linter.unusedSimpArgs false
set_option linter.unusedVariables false
namespace Go.Pl
open Go

section
variable {n L : Nat} {mA mB : List Int → Nat → List Int} {f g : List Int}
/-- The kinds among the first marks of both, by turns. -/
def kindsI (mA mB : List Int → Nat → List Int) (f g : List Int) : Nat → List (List Int)
  | 0 => []
  | x + 1 => insK (insK (kindsI mA mB f g x) (mA f x)) (mB g x)
theorem kindsI_go (hA : ∀ f x, SL L (mA f x)) (hB : ∀ f x, SL L (mB f x)) : ∀ x, (∀ m, m ∈ kindsI mA mB f g x ↔ ∃ j, j < x ∧ (m = mA f j ∨ m = mB g j)) ∧ (kindsI mA mB f g x).Pairwise (fun a b => lt1 a b = true) ∧ (∀ m ∈ kindsI mA mB f g x, SL L m) ∧ (kindsI mA mB f g x).length ≤ 2 * x
  | 0 => ⟨fun m => by simp [kindsI], List.Pairwise.nil, fun m h => by simp [kindsI] at h, by simp [kindsI]⟩
  | x + 1 => by
    obtain ⟨h1, h2, h3, h4⟩ := kindsI_go hA hB x
    have h5 : ∀ m ∈ insK (kindsI mA mB f g x) (mA f x), SL L m := fun m hm => by
      rcases insK_mem.1 hm with e | e
      · rw [e]; exact hA _ _
      · exact h3 m e
    have l1 := insK_len (m := mA f x) (ks := kindsI mA mB f g x)
    have l2 := insK_len (m := mB g x) (ks := insK (kindsI mA mB f g x) (mA f x))
    refine ⟨fun m => ?_, insK_pw (hB _ _) h5 (insK_pw (hA _ _) h3 h2), fun m hm => ?_, by rw [kindsI]; omega⟩
    · rw [kindsI, insK_mem, insK_mem, h1]
      constructor
      · rintro (e | e | ⟨j, hj, e⟩)
        · exact ⟨x, by omega, .inr e⟩
        · exact ⟨x, by omega, .inl e⟩
        · exact ⟨j, by omega, e⟩
      · rintro ⟨j, hj, e⟩
        rcases Nat.lt_succ_iff_lt_or_eq.1 hj with h | h
        · exact .inr (.inr ⟨j, h, e⟩)
        · subst h
          rcases e with e | e
          · exact .inr (.inl e)
          · exact .inl e
    · rw [kindsI] at hm
      rcases insK_mem.1 hm with e | e
      · rw [e]; exact hB _ _
      · exact h5 m e
theorem pw_nodup {xs : List (List Int)} (hS : ∀ m ∈ xs, SL L m) (hp : xs.Pairwise (fun a b => lt1 a b = true)) : xs.Nodup := by
  refine hp.imp_of_mem (fun {a b} ha hb hab e => ?_)
  subst e
  rw [(tot1L L).irr a (hS a ha)] at hab
  cases hab
theorem pw_unique {xs ys : List (List Int)} (hx : ∀ m ∈ xs, SL L m) (hy : ∀ m ∈ ys, SL L m) (px : xs.Pairwise (fun a b => lt1 a b = true)) (py : ys.Pairwise (fun a b => lt1 a b = true)) (h : ∀ m, m ∈ xs ↔ m ∈ ys) : xs = ys := by
  refine List.Perm.eq_of_pairwise (le := fun a b => lt1 a b = true) (fun a b ha hb h1 h2 => ?_) px py ((List.perm_ext_iff_of_nodup (pw_nodup hx px) (pw_nodup hy py)).2 h)
  have := (tot1L L).tr a b a (hx a ha) (hy b hb) (hx a ha) h1 h2
  rw [(tot1L L).irr a (hx a ha)] at this
  cases this
theorem kindsI_eq (hA : ∀ f x, SL L (mA f x)) (hB : ∀ f x, SL L (mB f x)) : kindsI mA mB f g n = kindsF (msG n mA mB f g (2 * n)) := by
  obtain ⟨h1, h2, h3, _⟩ := kindsI_go (f := f) (g := g) hA hB n
  have hS := msG_SL (n := n) (f := f) (g := g) hA hB (k := 2 * n)
  refine pw_unique h3 (fun m hm => hS m ((kindsF_mem hS).1 hm)) h2 (kindsF_pw hS) fun m => ?_
  rw [h1, kindsF_mem hS]
  constructor
  · rintro ⟨j, hj, e⟩
    refine List.mem_map.2 ?_
    rcases e with e | e
    · exact ⟨j, List.mem_range.2 (by omega), by rw [if_pos hj, e]⟩
    · exact ⟨n + j, List.mem_range.2 (by omega), by rw [if_neg (by omega), Nat.add_sub_cancel_left, e]⟩
  · intro hm
    obtain ⟨j, hj, e⟩ := List.mem_map.1 hm
    have hj := List.mem_range.1 hj
    by_cases c : j < n
    · rw [if_pos c] at e
      exact ⟨j, c, .inl e.symm⟩
    · rw [if_neg c] at e
      exact ⟨j - n, by omega, .inr e.symm⟩
def colA (ks : List (List Int)) (mA : List Int → Nat → List Int) (f : List Int) (x : Nat) : List Int := rowF x fun j => ((colI ks (mA f j) : Nat) : Int)
def cntA (ks : List (List Int)) (mA mB : List Int → Nat → List Int) (f g : List Int) (x c : Nat) : Int := (((colA ks mA f x).count (c : Int) : Nat) : Int) - (((colA ks mB g x).count (c : Int) : Nat) : Int)
theorem stepG_eq (hA : ∀ f x, SL L (mA f x)) (hB : ∀ f x, SL L (mB f x)) : stepG n mA mB f g = if (List.range (kindsI mA mB f g n).length).all (fun c => decide (cntA (kindsI mA mB f g n) mA mB f g n c = 0)) = true then
    some (colA (kindsI mA mB f g n) mA f n, colA (kindsI mA mB f g n) mB g n, (kindsI mA mB f g n).length) else none := by
  have hl := msG_len (n := n) (mA := mA) (mB := mB) (f := f) (g := g) (i := 2 * n)
  have hg := fun i (h : i < 2 * n) => msG_get (n := n) (mA := mA) (mB := mB) (f := f) (g := g) h
  rw [kindsI_eq hA hB]
  unfold stepG balB
  obtain ⟨ms, ems⟩ : ∃ ms, msG n mA mB f g (2 * n) = ms := ⟨_, rfl⟩
  rw [ems] at hl hg ⊢
  have hcl := colsF_len (ms := ms) (i := 2 * n) (by omega)
  have eA : (colsF ms (2 * n)).take n = colA (kindsF ms) mA f n := by
    refine ext_getD (d := 0) (by rw [List.length_take, hcl, colA, rowF_length]; omega) (fun x hx => ?_)
    have hx : x < n := by rw [List.length_take, hcl] at hx; omega
    rw [colA, rowF_get hx, ls_take hx, colsF_get (by omega) (by omega), hg x (by omega), if_pos hx]
  have eB : (colsF ms (2 * n)).drop n = colA (kindsF ms) mB g n := by
    refine ext_getD (d := 0) (by rw [List.length_drop, hcl, colA, rowF_length]; omega) (fun x hx => ?_)
    have hx : x < n := by rw [List.length_drop, hcl] at hx; omega
    rw [colA, rowF_get hx, ls_drop, colsF_get (by omega) (by omega), hg (n + x) (by omega), if_neg (by omega), Nat.add_sub_cancel_left]
  have eC : ∀ c, cntD ms n ms.length c = cntA (kindsF ms) mA mB f g n c := fun c => by
    unfold cntD cntA
    rw [hl, eA, eB]
  simp only [eA, eB, eC]
theorem colA_succ {ks : List (List Int)} {x : Nat} : colA ks mA f (x + 1) = colA ks mA f x ++ [((colI ks (mA f x) : Nat) : Int)] := by
  unfold colA
  simp [rowF, List.range_succ]
theorem colA_len {ks : List (List Int)} {x : Nat} : (colA ks mA f x).length = x := rowF_length ..
theorem cntA_zero {ks : List (List Int)} {c : Nat} : cntA ks mA mB f g 0 c = 0 := by simp [cntA, colA, rowF]
theorem count_snoc (xs : List Int) (v c : Nat) : (xs ++ [(v : Int)]).count (c : Int) = xs.count (c : Int) + if c = v then 1 else 0 := by
  rw [List.count_append]
  by_cases e : c = v
  · subst e; rw [if_pos rfl]; simp
  · rw [if_neg e, List.count_cons_of_ne (by omega)]; simp
theorem cntA_succ {ks : List (List Int)} {x : Nat} (c : Nat) : cntA ks mA mB f g (x + 1) c = (cntA ks mA mB f g x c + if c = colI ks (mA f x) then 1 else 0) - if c = colI ks (mB g x) then 1 else 0 := by
  unfold cntA
  rw [colA_succ, colA_succ, count_snoc, count_snoc]
  split <;> split <;> omega
theorem cntA_bd {ks : List (List Int)} {x c : Nat} : -(x : Int) ≤ cntA ks mA mB f g x c ∧ cntA ks mA mB f g x c ≤ x := by
  unfold cntA
  have h1 := List.count_le_length (a := (c : Int)) (l := colA ks mA f x)
  have h2 := List.count_le_length (a := (c : Int)) (l := colA ks mB g x)
  rw [colA_len] at h1 h2
  omega
end
end Go.Pl
