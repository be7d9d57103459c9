import Derived.Test.YtcmgjlgmajhekaaLib3
set_option linter.unusedSimpArgs false
set_option linter.unusedVariables false
namespace Go.Pl
def fill {α : Type} (d : α) (xs : List α) (k : Nat) : List α := xs.take k ++ List.replicate (xs.length - k) d
def up (k : Int) (n : Nat) : List Int := (List.range n).map fun (i : Nat) => k + (i : Int)
section
variable {α : Type}
end
end Go.Pl
namespace Go.Pl
theorem all_getD {α : Type} {d : α} {xs : List α} {p : α → Prop} : (∀ x ∈ xs, p x) ↔ ∀ i, i < xs.length → p (xs.getD i d) := by
 constructor
 ·intro h i hi
  have : xs.getD i d = xs[i] := by simp [List.getD, hi]
  rw [this]; exact h _ (List.getElem_mem hi)
 ·intro h x hx
  obtain ⟨i, hi, rfl⟩ := List.mem_iff_getElem.1 hx
  have := h i hi
  simpa [List.getD, hi] using this
def fidx {α : Type} (p : α → Bool) (xs : List α) : Int := match xs.findIdx? p with
 | some i => (i : Int)
 | none => -1
theorem fidx_none {α : Type} {d : α} {p : α → Bool} {xs : List α} (h : ∀ i, i < xs.length → p (xs.getD i d) = false) : fidx p xs = -1 := by
 have : xs.findIdx? p = none := by
  rw [List.findIdx?_eq_none_iff]
  exact (all_getD (d := d)).2 h
 simp [fidx, this]
theorem fidx_some {α : Type} {d : α} {p : α → Bool} {xs : List α} {k : Nat} (hk : k < xs.length) (h : ∀ i, i < k → p (xs.getD i d) = false) (hp : p (xs.getD k d) = true) : fidx p xs = k := by
 have : xs.findIdx? p = some k := by
  rw [List.findIdx?_eq_some_iff_getElem]
  refine ⟨hk, by simpa [List.getD, hk] using hp, fun j hj => ?_⟩
  have := h j hj
  have hl : j < xs.length := by omega
  simpa [List.getD, hl] using this
 simp [fidx, this]
theorem fidx_any {α : Type} {p : α → Bool} {xs : List α} : decide (fidx p xs ≥ 0) = xs.any p := by
 unfold fidx
 cases h : xs.findIdx? p with
 | none =>
  rw [List.findIdx?_eq_none_iff] at h
  have : xs.any p = false := by rw [List.any_eq_false]; exact fun x hx => by simp [h x hx]
  simp [this]
 | some i =>
  rw [List.findIdx?_eq_some_iff_getElem] at h
  obtain ⟨hi, hp, _⟩ := h
  have : xs.any p = true := List.any_eq_true.2 ⟨_, List.getElem_mem hi, hp⟩
  simp [this]
def InM (x : Int) : Prop := 0 ≤ x ∧ x ≤ 1000
def RowOk (n : Nat) (r : List Int) : Prop := r.length = n ∧ ∀ k, k < n → InM (r.getD k 0)
def MatOk (n : Nat) (m : List (List Int)) : Prop := m.length = n ∧ ∀ j, j < n → RowOk n (m.getD j [])
def Cube (t : List (List (List Int))) : Prop := 1 ≤ t.length ∧ t.length ≤ 16 ∧ ∀ i, i < t.length → MatOk t.length (t.getD i [])
abbrev e3 (t : List (List (List Int))) (i j k : Nat) : Int := ((t.getD i []).getD j []).getD k 0
abbrev e2 (m : List (List Int)) (i j : Nat) : Int := (m.getD i []).getD j 0
noncomputable def bd (p : Prop) : Bool := @decide p (Classical.propDecidable p)
theorem bd_true {p : Prop} (h : p) : bd p = true := by unfold bd; exact @decide_eq_true p (Classical.propDecidable p) h
theorem bd_false {p : Prop} (h : ¬ p) : bd p = false := by unfold bd; exact @decide_eq_false p (Classical.propDecidable p) h
theorem bd_iff {p : Prop} : bd p = true ↔ p := by unfold bd; exact @decide_eq_true_iff p (Classical.propDecidable p)
theorem Cube.row {t : List (List (List Int))} (h : Cube t) {i j : Nat} (hi : i < t.length) (hj : j < t.length) : ((t.getD i []).getD j []).length = t.length := ((h.2.2 i hi).2 j hj).1
theorem Cube.mat {t : List (List (List Int))} (h : Cube t) {i : Nat} (hi : i < t.length) : (t.getD i []).length = t.length := (h.2.2 i hi).1
theorem Cube.inM {t : List (List (List Int))} (h : Cube t) {i j k : Nat} (hi : i < t.length) (hj : j < t.length) (hk : k < t.length) : InM (e3 t i j k) := ((h.2.2 i hi).2 j hj).2 k hk
theorem range_drop {n k : Nat} (h : k < n) : (List.range n).drop k = k :: (List.range n).drop (k + 1) := by
 rw [List.drop_eq_getElem_cons (by simpa using h)]; simp
def dualG (g : Nat → Int) : List Nat → Int → Int
 | [], out => out
 | j :: js, out => if g j = 0 then dualG g js out else if out < 0 ∧ g j = 1 then dualG g js j else -1
def dual (t : List (List (List Int))) (i : Nat) : Int := dualG (fun j => e3 t i j 0) (List.range t.length) (-1)
end Go.Pl
namespace Go.Pl
open Go.Aw
def first {α : Type} (n : Nat) (f : Nat → Option α) : Option α := (List.range n).findSome? f
theorem first_none {α : Type} {n : Nat} {f : Nat → Option α} (h : ∀ i, i < n → f i = none) : first n f = none := by
 unfold first
 rw [List.findSome?_eq_none_iff]
 intro x hx
 exact h x (by simpa using hx)
theorem first_some {α : Type} {n : Nat} {f : Nat → Option α} {i : Nat} {a : α} (hi : i < n) (h : ∀ j, j < i → f j = none) (ha : f i = some a) : first n f = some a := by
 unfold first
 rw [List.findSome?_eq_some_iff]
 refine ⟨List.range i, i, (List.range n).drop (i + 1), ?_, ha, fun x hx => h x (by simpa using hx)⟩
 rw [← range_drop hi]
 have : List.range i = (List.range n).take i := by rw [List.take_range, Nat.min_eq_left (by omega)]
 rw [this, List.take_append_drop]
def optA : Option (List Int) → AV
 | some xs => .l1 xs
 | none => .nil
def orE {α : Type} (a b : Option α) : Option α :=
 match a with
 | some x => some x
 | none => b
def sumTo (f : Nat → Int) : Nat → Int
 | 0 => 0
 | n + 1 => sumTo f n + f n
def dl (i k : Nat) : Int := if (i : Int) = (k : Int) then 1 else 0
def unitG (t : List (List (List Int))) (i k : Nat) : Option (List Int) := if e3 t 0 i k ≠ dl i k ∨ e3 t i 0 k ≠ dl i k then some [0, (i : Int), (k : Int)] else none
def unitF (t : List (List (List Int))) : Option (List Int) := first t.length fun i => first t.length (unitG t i)
def dualH (t : List (List (List Int))) (i : Nat) : Option (List Int) := if dual t i < 0 ∨ dual t (dual t i).toNat ≠ i then some [1, (i : Int)] else none
def dualF (t : List (List (List Int))) : Option (List Int) := first t.length (dualH t)
def turnG (t : List (List (List Int))) (i j k : Nat) : Option (List Int) := if e3 t i j k ≠ e3 t (dual t i).toNat k j ∨ e3 t i j k ≠ e3 t k (dual t j).toNat i then some [2, (i : Int), (j : Int), (k : Int)] else none
def turnF (t : List (List (List Int))) : Option (List Int) := first t.length fun i => first t.length fun j => first t.length (turnG t i j)
def brL (t : List (List (List Int))) (i j k l m : Nat) : Int := e3 t i j m * e3 t m k l
def brR (t : List (List (List Int))) (i j k l m : Nat) : Int := e3 t j k m * e3 t i m l
def brackG (t : List (List (List Int))) (i j k l : Nat) : Option (List Int) := if sumTo (brL t i j k l) t.length ≠ sumTo (brR t i j k l) t.length then some [3, (i : Int), (j : Int), (k : Int), (l : Int)] else none
def brackF (t : List (List (List Int))) : Option (List Int) := first t.length fun i => first t.length fun j => first t.length fun k => first t.length (brackG t i j k)
def faultF (t : List (List (List Int))) : Option (List Int) := orE (unitF t) (orE (dualF t) (orE (turnF t) (brackF t)))
def ds (t : List (List (List Int))) : List Int := (List.range t.length).map (dual t)
theorem first_all {α : Type} {P : α → Prop} {n : Nat} {f : Nat → Option α} {a : α} (h : first n f = some a) (hp : ∀ i x, f i = some x → P x) : P a := by
 unfold first at h
 rw [List.findSome?_eq_some_iff] at h
 obtain ⟨_, i, _, _, hi, _⟩ := h
 exact hp i a hi
end Go.Pl
namespace Go.Pl
open Go.Aw
def Fam (t a : List (List (List Int))) : Prop := a.length = t.length ∧ a.length ≠ 0 ∧ 1 ≤ (a.getD 0 []).length ∧ (a.getD 0 []).length ≤ 16 ∧ ∀ i, i < a.length → MatOk (a.getD 0 []).length (a.getD i [])
noncomputable def isRing (t : List (List (List Int))) : Bool := bd (Cube t ∧ faultF t = none)
theorem Fam.mat {t a : List (List (List Int))} (h : Fam t a) {i : Nat} (hi : i < a.length) : (a.getD i []).length = (a.getD 0 []).length := (h.2.2.2.2 i hi).1
theorem Fam.row {t a : List (List (List Int))} (h : Fam t a) {i j : Nat} (hi : i < a.length) (hj : j < (a.getD 0 []).length) : ((a.getD i []).getD j []).length = (a.getD 0 []).length := ((h.2.2.2.2 i hi).2 j hj).1
theorem Fam.inM {t a : List (List (List Int))} (h : Fam t a) {i j k : Nat} (hi : i < a.length) (hj : j < (a.getD 0 []).length) (hk : k < (a.getD 0 []).length) : InM (e3 a i j k) := ((h.2.2.2.2 i hi).2 j hj).2 k hk
end Go.Pl
namespace Go.Pl
open Go.Aw
def rowF (c : Nat) (f : Nat → Int) : List Int := (List.range c).map f
def matF (r c : Nat) (f : Nat → Nat → Int) : List (List Int) := (List.range r).map fun i => rowF c (f i)
theorem rowF_length (c : Nat) (f : Nat → Int) : (rowF c f).length = c := by simp [rowF]
theorem matF_length (r c : Nat) (f : Nat → Nat → Int) : (matF r c f).length = r := by simp [matF]
theorem rowF_get {c : Nat} {f : Nat → Int} {j : Nat} (h : j < c) : (rowF c f).getD j 0 = f j := by simp [rowF, List.getD, h]
theorem matF_get {r c : Nat} {f : Nat → Nat → Int} {i : Nat} (h : i < r) : (matF r c f).getD i [] = rowF c (f i) := by simp [matF, List.getD, h]
theorem rowF_congr {c : Nat} {f g : Nat → Int} (h : ∀ j, j < c → f j = g j) : rowF c f = rowF c g := List.map_congr_left (fun j hj => h j (by simpa using hj))
theorem matF_congr {r c : Nat} {f g : Nat → Nat → Int} (h : ∀ i, i < r → ∀ j, j < c → f i j = g i j) : matF r c f = matF r c g := List.map_congr_left (fun i hi => rowF_congr (h i (by simpa using hi)))
theorem zeros_matF (r c : Nat) : List.replicate r (List.replicate c (0 : Int)) = matF r c (fun _ _ => 0) := by
 simp [matF, rowF, List.map_const']
theorem rowF_set {c : Nat} {f : Nat → Int} {j : Nat} {v : Int} : (rowF c f).set j v = rowF c (fun y => if y = j then v else f y) := by
 apply List.ext_getElem
 ·simp [rowF]
 ·intro n h1 h2
  simp only [rowF, List.getElem_set, List.getElem_map, List.getElem_range]
  by_cases h : j = n
  ·subst h; simp
  ·rw [if_neg h, if_neg (fun e => h e.symm)]
theorem matF_set {r c : Nat} {f : Nat → Nat → Int} {i j : Nat} {v : Int} (h : i < r) : (matF r c f).set i (((matF r c f).getD i []).set j v) = matF r c (fun x y => if x = i ∧ y = j then v else f x y) := by
 rw [matF_get h, rowF_set]
 apply List.ext_getElem
 ·simp [matF]
 ·intro n h1 h2
  simp only [matF, List.getElem_set, List.getElem_map, List.getElem_range]
  by_cases hn : i = n
  ·subst hn; simp
  ·rw [if_neg hn]
   exact rowF_congr fun y _ => by rw [if_neg (fun e => hn e.1.symm)]
def dotG (r v : List Int) (y : Nat) : Int := r.getD y 0 * v.getD y 0
theorem MatOk.row {m : Nat} {a : List (List Int)} (h : MatOk m a) {i : Nat} (hi : i < m) : (a.getD i []).length = m := (h.2 i hi).1
theorem MatOk.inM {m : Nat} {a : List (List Int)} (h : MatOk m a) {i j : Nat} (hi : i < m) (hj : j < m) : InM (e2 a i j) := (h.2 i hi).2 j hj
end Go.Pl
