/-
  Matrices by their entries. Of no program.
-/
import Derived.Test.YtomfedhhfcelkaaPlD
set_option linter.unusedSimpArgs false
set_option linter.unusedVariables false
namespace Go.Pl
open Go.Aw

def rowF (c : Nat) (f : Nat → Int) : List Int := (List.range c).map f
def matF (r c : Nat) (f : Nat → Nat → Int) : List (List Int) := (List.range r).map fun i => rowF c (f i)
theorem rowF_length (c : Nat) (f : Nat → Int) : (rowF c f).length = c := by simp [rowF]
theorem matF_length (r c : Nat) (f : Nat → Nat → Int) : (matF r c f).length = r := by simp [matF]
theorem rowF_get {c : Nat} {f : Nat → Int} {j : Nat} (h : j < c) : (rowF c f).getD j 0 = f j := by simp [rowF, List.getD, h]
theorem matF_get {r c : Nat} {f : Nat → Nat → Int} {i : Nat} (h : i < r) : (matF r c f).getD i [] = rowF c (f i) := by simp [matF, List.getD, h]
theorem rowF_congr {c : Nat} {f g : Nat → Int} (h : ∀ j, j < c → f j = g j) : rowF c f = rowF c g := List.map_congr_left (fun j hj => h j (by simpa using hj))
theorem matF_congr {r c : Nat} {f g : Nat → Nat → Int} (h : ∀ i, i < r → ∀ j, j < c → f i j = g i j) : matF r c f = matF r c g := List.map_congr_left (fun i hi => rowF_congr (h i (by simpa using hi)))
theorem zeros_matF (r c : Nat) : List.replicate r (List.replicate c (0 : Int)) = matF r c (fun _ _ => 0) := by
  simp [matF, rowF, List.map_const']
theorem rowF_set {c : Nat} {f : Nat → Int} {j : Nat} {v : Int} : (rowF c f).set j v = rowF c (fun y => if y = j then v else f y) := by
  apply List.ext_getElem
  · simp [rowF]
  · intro n h1 h2
    simp only [rowF, List.getElem_set, List.getElem_map, List.getElem_range]
    by_cases h : j = n
    · subst h; simp
    · rw [if_neg h, if_neg (fun e => h e.symm)]
theorem matF_set {r c : Nat} {f : Nat → Nat → Int} {i j : Nat} {v : Int} (h : i < r) : (matF r c f).set i (((matF r c f).getD i []).set j v) = matF r c (fun x y => if x = i ∧ y = j then v else f x y) := by
  rw [matF_get h, rowF_set]
  apply List.ext_getElem
  · simp [matF]
  · intro n h1 h2
    simp only [matF, List.getElem_set, List.getElem_map, List.getElem_range]
    by_cases hn : i = n
    · subst hn; simp
    · rw [if_neg hn]
      exact rowF_congr fun y _ => by rw [if_neg (fun e => hn e.1.symm)]
theorem unitM_matF (n : Nat) : unitM n = matF n n (fun x y => if x = y then 1 else 0) := by
  unfold unitM matF
  refine List.map_congr_left fun i hi => ?_
  have : List.replicate n (0 : Int) = rowF n (fun _ => 0) := by simp [rowF, List.map_const']
  rw [this, rowF_set]
  exact rowF_congr fun y _ => by
    show (if y = i then (1 : Int) else 0) = if i = y then 1 else 0
    by_cases h : y = i
    · rw [if_pos h, if_pos h.symm]
    · rw [if_neg h, if_neg (fun e => h e.symm)]
theorem turnM_matF (a : List (List Int)) : turnM a = matF (a.getD 0 []).length a.length (fun k i => e2 a i k) := rfl

def mg (a b : List (List Int)) (p q z : Nat) : Int := e2 a p z * e2 b z q
def prodM (a b : List (List Int)) (m : Nat) : List (List Int) := matF m m (fun p q => sumTo (mg a b p q) m)
def whF (a b : List (List Int)) (m i k j p q : Nat) : Int := if p < i then sumTo (mg a b p q) m else if p = i then sumTo (mg a b p q) k + (if q < j then mg a b p q k else 0) else 0
theorem MatOk.row {m : Nat} {a : List (List Int)} (h : MatOk m a) {i : Nat} (hi : i < m) : (a.getD i []).length = m := (h.2 i hi).1
theorem MatOk.inM {m : Nat} {a : List (List Int)} (h : MatOk m a) {i j : Nat} (hi : i < m) (hj : j < m) : InM (e2 a i j) := (h.2 i hi).2 j hj
theorem mg_bd {m : Nat} {a b : List (List Int)} (ha : MatOk m a) (hb : MatOk m b) {p q : Nat} (hp : p < m) (hq : q < m) : ∀ z, z < m → 0 ≤ mg a b p q z ∧ mg a b p q z ≤ 1000000 := fun _ hz => mul_bd (ha.inM hp hz) (hb.inM hz hq)

def acF (t a : List (List (List Int))) (i j k x y p q : Nat) : Int := sumTo (prR t a i j p q) k + (if p < x ∨ (p = x ∧ q < y) then prR t a i j p q k else 0)
def sumM (t a : List (List (List Int))) (i j : Nat) : List (List Int) := matF (a.getD 0 []).length (a.getD 0 []).length (fun p q => sumTo (prR t a i j p q) t.length)

theorem matF_inj {r c : Nat} {f g : Nat → Nat → Int} : matF r c f = matF r c g ↔ ∀ i, i < r → ∀ j, j < c → f i j = g i j := by
  constructor
  · intro h i hi j hj
    have h1 : ((matF r c f).getD i []).getD j 0 = ((matF r c g).getD i []).getD j 0 := by rw [h]
    rw [matF_get hi, matF_get hi, rowF_get hj, rowF_get hj] at h1
    exact h1
  · exact matF_congr
theorem prod_iff (t a : List (List (List Int))) (i j : Nat) : sumM t a i j = prodM (a.getD i []) (a.getD j []) (a.getD 0 []).length ↔ ProdOk t a i j := by
  unfold sumM prodM ProdOk
  rw [matF_inj]
  constructor
  · intro h x hx y hy; exact (h x hx y hy).symm
  · intro h x hx y hy; exact (h x hx y hy).symm

end Go.Pl
