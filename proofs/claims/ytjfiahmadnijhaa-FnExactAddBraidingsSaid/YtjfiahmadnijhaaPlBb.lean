/-
  Matrices and cubes that are written cell by cell; lists of matrices that grow. Of no program.
-/
import Derived.Test.YtjfiahmadnijhaaPlBa
set_option linter.unusedSimpArgs false
set_option linter.unusedVariables false
namespace Go.Pl
open Go.Aw

def lx3 (f g : Nat → Nat → Nat → Int) (i j k x y z : Nat) : Int := if x < i ∨ (x = i ∧ (y < j ∨ (y = j ∧ z < k))) then f x y z else g x y z
def wrC (n : Nat) (f g : Nat → Nat → Nat → Int) (i j k : Nat) : List (List (List Int)) := cubF n (lx3 f g i j k)
theorem wrC_set {n : Nat} {f g : Nat → Nat → Nat → Int} {i j k : Nat} (hi : i < n) (hj : j < n) :
    (wrC n f g i j k).set i (((wrC n f g i j k).getD i []).set j ((((wrC n f g i j k).getD i []).getD j []).set k (f i j k))) = wrC n f g i j (k + 1) := by
  unfold wrC
  rw [cubF_set hi hj]
  refine cubF_congr fun x _ y _ z _ => ?_
  unfold lx3
  by_cases h : x = i ∧ y = j ∧ z = k
  · obtain ⟨rfl, rfl, rfl⟩ := h
    rw [if_pos ⟨rfl, rfl, rfl⟩, if_pos (by omega)]
  · rw [if_neg h]
    by_cases h1 : x < i ∨ (x = i ∧ (y < j ∨ (y = j ∧ z < k)))
    · rw [if_pos h1, if_pos (by omega)]
    · rw [if_neg h1, if_neg (by omega)]
theorem wrC_row {n : Nat} {f g : Nat → Nat → Nat → Int} {i j : Nat} : wrC n f g i j n = wrC n f g i (j + 1) 0 := by
  refine cubF_congr fun x _ y _ z hz => ?_
  unfold lx3
  by_cases h1 : x < i ∨ (x = i ∧ (y < j ∨ (y = j ∧ z < n)))
  · rw [if_pos h1, if_pos (by omega)]
  · rw [if_neg h1, if_neg (by omega)]
theorem wrC_mat {n : Nat} {f g : Nat → Nat → Nat → Int} {i : Nat} : wrC n f g i n 0 = wrC n f g (i + 1) 0 0 := by
  refine cubF_congr fun x _ y hy z _ => ?_
  unfold lx3
  by_cases h1 : x < i ∨ (x = i ∧ (y < n ∨ (y = n ∧ z < 0)))
  · rw [if_pos h1, if_pos (by omega)]
  · rw [if_neg h1, if_neg (by omega)]
theorem wrC_end {n : Nat} {f g : Nat → Nat → Nat → Int} : wrC n f g n 0 0 = cubF n f :=
  cubF_congr fun x hx y _ z _ => if_pos (.inl hx)
theorem wrC_zero {n : Nat} {f g : Nat → Nat → Nat → Int} : wrC n f g 0 0 0 = cubF n g :=
  cubF_congr fun x hx y _ z _ => if_neg (by omega)
theorem wrC_len {n : Nat} {f g : Nat → Nat → Nat → Int} {i j k : Nat} : (wrC n f g i j k).length = n := cubF_length ..
theorem wrC_l2 {n : Nat} {f g : Nat → Nat → Nat → Int} {i j k x : Nat} (h : x < n) : ((wrC n f g i j k).getD x []).length = n := cubF_mat h
theorem wrC_l3 {n : Nat} {f g : Nat → Nat → Nat → Int} {i j k x y : Nat} (h : x < n) (hy : y < n) : (((wrC n f g i j k).getD x []).getD y []).length = n := cubF_row h hy

def lx2 (f g : Nat → Nat → Int) (i j x y : Nat) : Int := if x < i ∨ (x = i ∧ y < j) then f x y else g x y
def wrM (n : Nat) (f g : Nat → Nat → Int) (i j : Nat) : List (List Int) := matF n n (lx2 f g i j)
theorem wrM_set {n : Nat} {f g : Nat → Nat → Int} {i j : Nat} (hi : i < n) : (wrM n f g i j).set i (((wrM n f g i j).getD i []).set j (f i j)) = wrM n f g i (j + 1) := by
  unfold wrM
  rw [matF_set hi]
  refine matF_congr fun x _ y _ => ?_
  unfold lx2
  by_cases h : x = i ∧ y = j
  · obtain ⟨rfl, rfl⟩ := h
    rw [if_pos ⟨rfl, rfl⟩, if_pos (by omega)]
  · rw [if_neg h]
    by_cases h1 : x < i ∨ (x = i ∧ y < j)
    · rw [if_pos h1, if_pos (by omega)]
    · rw [if_neg h1, if_neg (by omega)]
theorem wrM_row {n : Nat} {f g : Nat → Nat → Int} {i : Nat} : wrM n f g i n = wrM n f g (i + 1) 0 := by
  refine matF_congr fun x _ y hy => ?_
  unfold lx2
  by_cases h1 : x < i ∨ (x = i ∧ y < n)
  · rw [if_pos h1, if_pos (by omega)]
  · rw [if_neg h1, if_neg (by omega)]
theorem wrM_end {n : Nat} {f g : Nat → Nat → Int} : wrM n f g n 0 = matF n n f := matF_congr fun x hx y _ => if_pos (.inl hx)
theorem wrM_zero {n : Nat} {f g : Nat → Nat → Int} : wrM n f g 0 0 = matF n n g := matF_congr fun x hx y _ => if_neg (by omega)
theorem wrM_len {n : Nat} {f g : Nat → Nat → Int} {i j : Nat} : (wrM n f g i j).length = n := matF_length ..
theorem wrM_l2 {n : Nat} {f g : Nat → Nat → Int} {i j x : Nat} (h : x < n) : ((wrM n f g i j).getD x []).length = n := by unfold wrM; rw [matF_get h, rowF_length]

theorem rowF_own {r : List Int} {n : Nat} (h : r.length = n) : rowF n (fun k => r.getD k 0) = r := by
  subst h
  apply List.ext_getElem
  · simp [rowF]
  · intro i h1 h2
    simp [rowF, List.getD, h2]
theorem matF_own {g : List (List Int)} {n : Nat} {m : Int} (h : GridB n m g) : matF n n (e2 g) = g := by
  obtain ⟨rfl, h2⟩ := h
  apply List.ext_getElem
  · simp [matF]
  · intro i h1 h3
    have e : g.getD i [] = g[i] := by simp [List.getD, h3]
    have := rowF_own (h2 i h3).1
    rw [e] at this
    simp only [matF, List.getElem_map, List.getElem_range]
    refine Eq.trans (rowF_congr fun j hj => ?_) this
    rw [e2, e]
theorem cubF_own {w : List (List (List Int))} {n : Nat} {m : Int} (h : CubB n m w) : cubF n (e3 w) = w := by
  obtain ⟨rfl, h2⟩ := h
  apply List.ext_getElem
  · simp [cubF]
  · intro i h1 h3
    have e : w.getD i [] = w[i] := by simp [List.getD, h3]
    have := matF_own (h2 i h3)
    rw [e] at this
    simp only [cubF, List.getElem_map, List.getElem_range]
    refine Eq.trans (matF_congr fun j hj k hk => ?_) this
    rw [e3, e, e2]
/-- The first i matrices. -/
def cubP (n : Nat) (f : Nat → Nat → Nat → Int) (i : Nat) : List (List (List Int)) := (List.range i).map fun u => matF n n (f u)
theorem cubP_succ {n : Nat} {f : Nat → Nat → Nat → Int} {i : Nat} : cubP n f (i + 1) = cubP n f i ++ [matF n n (f i)] := by simp [cubP, List.range_succ]
theorem cubP_end {n : Nat} {f : Nat → Nat → Nat → Int} : cubP n f n = cubF n f := rfl
theorem cubP_len {n : Nat} {f : Nat → Nat → Nat → Int} {i : Nat} : (cubP n f i).length = i := by simp [cubP]
/-- The first i rows; the first j numbers of a row. -/
theorem matP_succ {r n : Nat} {f : Nat → Nat → Int} : matF (r + 1) n f = matF r n f ++ [rowF n (f r)] := by simp [matF, List.range_succ]
theorem rowP_succ {k : Nat} {f : Nat → Int} : rowF (k + 1) f = rowF k f ++ [f k] := by simp [rowF, List.range_succ]
theorem sum_bd {m a b : Int} (h1 : 0 ≤ a ∧ a ≤ m - 1) (h2 : 0 ≤ b ∧ b ≤ m - 1) : 0 ≤ a + b ∧ a + b ≤ 2 * m := by omega
end Go.Pl
