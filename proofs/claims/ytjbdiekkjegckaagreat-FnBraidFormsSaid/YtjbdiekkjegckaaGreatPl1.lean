import Derived.Test.YtjbdiekkjegckaaGreatLib3
set_option linter.unusedSimpArgs false
set_option linter.unusedVariables false
namespace Go.Pl
def fill {α : Type} (d : α) (xs : List α) (k : Nat) : List α := xs.take k ++ List.replicate (xs.length - k) d
def up (k : Int) (n : Nat) : List Int := (List.range n).map fun (i : Nat) => k + (i : Int)
section
variable {α : Type}
end
end Go.Pl
namespace Go.Pl
theorem Jf_ {α : Type} {d : α} {xs : List α} {p : α → Prop} : (∀ x ∈ xs, p x) ↔ ∀ i, i < xs.length → p (xs.getD i d) := by
 constructor
 ·intro h i hi
  have : xs.getD i d = xs[i] := by simp [List.getD, hi]
  rw [this]; exact h _ (List.getElem_mem hi)
 ·intro h x hx
  obtain ⟨i, hi, rfl⟩ := List.mem_iff_getElem.1 hx
  have := h i hi
  simpa [List.getD, hi] using this
def RF_ {α : Type} (p : α → Bool) (xs : List α) : Int := match xs.findIdx? p with
 | some i => (i : Int)
 | none => -1
theorem Zp_ {α : Type} {d : α} {p : α → Bool} {xs : List α} (h : ∀ i, i < xs.length → p (xs.getD i d) = false) : RF_ p xs = -1 := by
 have : xs.findIdx? p = none := by
  rw [List.findIdx?_eq_none_iff]
  exact (Jf_ (d := d)).2 h
 simp [RF_, this]
theorem Zq_ {α : Type} {d : α} {p : α → Bool} {xs : List α} {k : Nat} (hk : k < xs.length) (h : ∀ i, i < k → p (xs.getD i d) = false) (hp : p (xs.getD k d) = true) : RF_ p xs = k := by
 have : xs.findIdx? p = some k := by
  rw [List.findIdx?_eq_some_iff_getElem]
  refine ⟨hk, by simpa [List.getD, hk] using hp, fun j hj => ?_⟩
  have := h j hj
  have hl : j < xs.length := by omega
  simpa [List.getD, hl] using this
 simp [RF_, this]
theorem W5_ {α : Type} {p : α → Bool} {xs : List α} : decide (RF_ p xs ≥ 0) = xs.any p := by
 unfold RF_
 cases h : xs.findIdx? p with
 | none =>
  rw [List.findIdx?_eq_none_iff] at h
  have : xs.any p = false := by rw [List.any_eq_false]; exact fun x hx => by simp [h x hx]
  simp [this]
 | some i =>
  rw [List.findIdx?_eq_some_iff_getElem] at h
  obtain ⟨hi, hp, _⟩ := h
  have : xs.any p = true := List.any_eq_true.2 ⟨_, List.getElem_mem hi, hp⟩
  simp [this]
def InM (x : Int) : Prop := 0 ≤ x ∧ x ≤ 1000
def aI5 (n : Nat) (r : List Int) : Prop := r.length = n ∧ ∀ k, k < n → InM (r.getD k 0)
def MatOk (n : Nat) (m : List (List Int)) : Prop := m.length = n ∧ ∀ j, j < n → aI5 n (m.getD j [])
def Cube (t : List (List (List Int))) : Prop := 1 ≤ t.length ∧ t.length ≤ 16 ∧ ∀ i, i < t.length → MatOk t.length (t.getD i [])
abbrev e3 (t : List (List (List Int))) (i j k : Nat) : Int := ((t.getD i []).getD j []).getD k 0
abbrev e2 (m : List (List Int)) (i j : Nat) : Int := (m.getD i []).getD j 0
noncomputable def bd (p : Prop) : Bool := @decide p (Classical.propDecidable p)
theorem xS_ {p : Prop} (h : p) : bd p = true := by unfold bd; exact @decide_eq_true p (Classical.propDecidable p) h
theorem xz_ {p : Prop} (h : ¬ p) : bd p = false := by unfold bd; exact @decide_eq_false p (Classical.propDecidable p) h
theorem bd_iff {p : Prop} : bd p = true ↔ p := by unfold bd; exact @decide_eq_true_iff p (Classical.propDecidable p)
theorem Cube.row {t : List (List (List Int))} (h : Cube t) {i j : Nat} (hi : i < t.length) (hj : j < t.length) : ((t.getD i []).getD j []).length = t.length := ((h.2.2 i hi).2 j hj).1
theorem Cube.mat {t : List (List (List Int))} (h : Cube t) {i : Nat} (hi : i < t.length) : (t.getD i []).length = t.length := (h.2.2 i hi).1
theorem Cube.inM {t : List (List (List Int))} (h : Cube t) {i j k : Nat} (hi : i < t.length) (hj : j < t.length) (hk : k < t.length) : InM (e3 t i j k) := ((h.2.2 i hi).2 j hj).2 k hk
theorem Sy_ {n k : Nat} (h : k < n) : (List.range n).drop k = k :: (List.range n).drop (k + 1) := by
 rw [List.drop_eq_getElem_cons (by simpa using h)]; simp
def ak4 (g : Nat → Int) : List Nat → Int → Int
 | [], out => out
 | j :: js, out => if g j = 0 then ak4 g js out else if out < 0 ∧ g j = 1 then ak4 g js j else -1
def dual (t : List (List (List Int))) (i : Nat) : Int := ak4 (fun j => e3 t i j 0) (List.range t.length) (-1)
end Go.Pl
namespace Go.Pl
open Go.Aw
def first {α : Type} (n : Nat) (f : Nat → Option α) : Option α := (List.range n).findSome? f
theorem xB_ {α : Type} {n : Nat} {f : Nat → Option α} (h : ∀ i, i < n → f i = none) : first n f = none := by
 unfold first
 rw [List.findSome?_eq_none_iff]
 intro x hx
 exact h x (by simpa using hx)
theorem first_some {α : Type} {n : Nat} {f : Nat → Option α} {i : Nat} {a : α} (hi : i < n) (h : ∀ j, j < i → f j = none) (ha : f i = some a) : first n f = some a := by
 unfold first
 rw [List.findSome?_eq_some_iff]
 refine ⟨List.range i, i, (List.range n).drop (i + 1), ?_, ha, fun x hx => h x (by simpa using hx)⟩
 rw [← Sy_ hi]
 have : List.range i = (List.range n).take i := by rw [List.take_range, Nat.min_eq_left (by omega)]
 rw [this, List.take_append_drop]
def RG_ : Option (List Int) → AV
 | some xs => .l1 xs
 | none => .nil
def orE {α : Type} (a b : Option α) : Option α :=
 match a with
 | some x => some x
 | none => b
def sumTo (f : Nat → Int) : Nat → Int
 | 0 => 0
 | n + 1 => sumTo f n + f n
def dl (i k : Nat) : Int := if (i : Int) = (k : Int) then 1 else 0
def aI6 (t : List (List (List Int))) (i k : Nat) : Option (List Int) := if e3 t 0 i k ≠ dl i k ∨ e3 t i 0 k ≠ dl i k then some [0, (i : Int), (k : Int)] else none
def aI7 (t : List (List (List Int))) : Option (List Int) := first t.length fun i => first t.length (aI6 t i)
def aI8 (t : List (List (List Int))) (i : Nat) : Option (List Int) := if dual t i < 0 ∨ dual t (dual t i).toNat ≠ i then some [1, (i : Int)] else none
def aI9 (t : List (List (List Int))) : Option (List Int) := first t.length (aI8 t)
def aJ0 (t : List (List (List Int))) (i j k : Nat) : Option (List Int) := if e3 t i j k ≠ e3 t (dual t i).toNat k j ∨ e3 t i j k ≠ e3 t k (dual t j).toNat i then some [2, (i : Int), (j : Int), (k : Int)] else none
def aJ1 (t : List (List (List Int))) : Option (List Int) := first t.length fun i => first t.length fun j => first t.length (aJ0 t i j)
def brL (t : List (List (List Int))) (i j k l m : Nat) : Int := e3 t i j m * e3 t m k l
def brR (t : List (List (List Int))) (i j k l m : Nat) : Int := e3 t j k m * e3 t i m l
def aw6 (t : List (List (List Int))) (i j k l : Nat) : Option (List Int) := if sumTo (brL t i j k l) t.length ≠ sumTo (brR t i j k l) t.length then some [3, (i : Int), (j : Int), (k : Int), (l : Int)] else none
def aw7 (t : List (List (List Int))) : Option (List Int) := first t.length fun i => first t.length fun j => first t.length fun k => first t.length (aw6 t i j k)
def aw8 (t : List (List (List Int))) : Option (List Int) := orE (aI7 t) (orE (aI9 t) (orE (aJ1 t) (aw7 t)))
theorem first_none_iff {α : Type} {n : Nat} {f : Nat → Option α} : first n f = none ↔ ∀ i, i < n → f i = none := by
 constructor
 ·intro h i hi
  unfold first at h
  rw [List.findSome?_eq_none_iff] at h
  exact h i (by simpa using hi)
 ·exact xB_
def ds (t : List (List (List Int))) : List Int := (List.range t.length).map (dual t)
theorem yC_ {α : Type} {P : α → Prop} {n : Nat} {f : Nat → Option α} {a : α} (h : first n f = some a) (hp : ∀ i x, f i = some x → P x) : P a := by
 unfold first at h
 rw [List.findSome?_eq_some_iff] at h
 obtain ⟨_, i, _, _, hi, _⟩ := h
 exact hp i a hi
end Go.Pl
namespace Go.Pl
open Go.Aw
def Fam (t a : List (List (List Int))) : Prop := a.length = t.length ∧ a.length ≠ 0 ∧ 1 ≤ (a.getD 0 []).length ∧ (a.getD 0 []).length ≤ 16 ∧ ∀ i, i < a.length → MatOk (a.getD 0 []).length (a.getD i [])
def aJ2 (n : Nat) : List (List Int) := (List.range n).map fun i => (List.replicate n 0).set i 1
def aJ3 (a : List (List Int)) : List (List Int) := (List.range (a.getD 0 []).length).map fun k => (List.range a.length).map fun i => e2 a i k
noncomputable def ah3 (t : List (List (List Int))) : Bool := bd (Cube t ∧ aw8 t = none)
theorem Fam.mat {t a : List (List (List Int))} (h : Fam t a) {i : Nat} (hi : i < a.length) : (a.getD i []).length = (a.getD 0 []).length := (h.2.2.2.2 i hi).1
theorem Fam.row {t a : List (List (List Int))} (h : Fam t a) {i j : Nat} (hi : i < a.length) (hj : j < (a.getD 0 []).length) : ((a.getD i []).getD j []).length = (a.getD 0 []).length := ((h.2.2.2.2 i hi).2 j hj).1
theorem Fam.inM {t a : List (List (List Int))} (h : Fam t a) {i j k : Nat} (hi : i < a.length) (hj : j < (a.getD 0 []).length) (hk : k < (a.getD 0 []).length) : InM (e3 a i j k) := ((h.2.2.2.2 i hi).2 j hj).2 k hk
def prL (a : List (List (List Int))) (i j x y z : Nat) : Int := e3 a i x z * e3 a j z y
def prR (t a : List (List (List Int))) (i j x y k : Nat) : Int := e3 t i j k * e3 a k x y
def aw9 (t a : List (List (List Int))) (i j : Nat) : Prop := ∀ x, x < (a.getD 0 []).length → ∀ y, y < (a.getD 0 []).length → sumTo (prL a i j x y) (a.getD 0 []).length = sumTo (prR t a i j x y) t.length
def bg3 (a : List (List (List Int))) : Option (List Int) := if a.getD 0 [] = aJ2 (a.getD 0 []).length then none else some [0]
noncomputable def bg4 (t a : List (List (List Int))) (i j : Nat) : Option (List Int) := if bd (aw9 t a i j) = true then none else some [1, (i : Int), (j : Int)]
def bg5 (t a : List (List (List Int))) (i : Nat) : Option (List Int) := if a.getD (dual t i).toNat [] = aJ3 (a.getD i []) then none else some [2, (i : Int)]
noncomputable def bg6 (t a : List (List (List Int))) : Option (List Int) := orE (bg3 a) (orE (first t.length fun i => first t.length (bg4 t a i)) (first t.length (bg5 t a)))
end Go.Pl
namespace Go.Pl
open Go.Aw
def zo_ (c : Nat) (f : Nat → Int) : List Int := (List.range c).map f
def yW_ (r c : Nat) (f : Nat → Nat → Int) : List (List Int) := (List.range r).map fun i => zo_ c (f i)
theorem xT_ (c : Nat) (f : Nat → Int) : (zo_ c f).length = c := by simp [zo_]
theorem ya_ (r c : Nat) (f : Nat → Nat → Int) : (yW_ r c f).length = r := by simp [yW_]
theorem y4_ {c : Nat} {f : Nat → Int} {j : Nat} (h : j < c) : (zo_ c f).getD j 0 = f j := by simp [zo_, List.getD, h]
theorem yK_ {r c : Nat} {f : Nat → Nat → Int} {i : Nat} (h : i < r) : (yW_ r c f).getD i [] = zo_ c (f i) := by simp [yW_, List.getD, h]
theorem wc_ {c : Nat} {f g : Nat → Int} (h : ∀ j, j < c → f j = g j) : zo_ c f = zo_ c g := List.map_congr_left (fun j hj => h j (by simpa using hj))
theorem zg_ {r c : Nat} {f g : Nat → Nat → Int} (h : ∀ i, i < r → ∀ j, j < c → f i j = g i j) : yW_ r c f = yW_ r c g := List.map_congr_left (fun i hi => wc_ (h i (by simpa using hi)))
theorem zK_ (r c : Nat) : List.replicate r (List.replicate c (0 : Int)) = yW_ r c (fun _ _ => 0) := by
 simp [yW_, zo_, List.map_const']
theorem Jg_ {c : Nat} {f : Nat → Int} {j : Nat} {v : Int} : (zo_ c f).set j v = zo_ c (fun y => if y = j then v else f y) := by
 apply List.ext_getElem
 ·simp [zo_]
 ·intro n h1 h2
  simp only [zo_, List.getElem_set, List.getElem_map, List.getElem_range]
  by_cases h : j = n
  ·subst h; simp
  ·rw [if_neg h, if_neg (fun e => h e.symm)]
theorem TL_ {r c : Nat} {f : Nat → Nat → Int} {i j : Nat} {v : Int} (h : i < r) : (yW_ r c f).set i (((yW_ r c f).getD i []).set j v) = yW_ r c (fun x y => if x = i ∧ y = j then v else f x y) := by
 rw [yK_ h, Jg_]
 apply List.ext_getElem
 ·simp [yW_]
 ·intro n h1 h2
  simp only [yW_, List.getElem_set, List.getElem_map, List.getElem_range]
  by_cases hn : i = n
  ·subst hn; simp
  ·rw [if_neg hn]
   exact wc_ fun y _ => by rw [if_neg (fun e => hn e.1.symm)]
def bg7 (r v : List Int) (y : Nat) : Int := r.getD y 0 * v.getD y 0
def mg (a b : List (List Int)) (p q z : Nat) : Int := e2 a p z * e2 b z q
theorem MatOk.row {m : Nat} {a : List (List Int)} (h : MatOk m a) {i : Nat} (hi : i < m) : (a.getD i []).length = m := (h.2 i hi).1
theorem MatOk.inM {m : Nat} {a : List (List Int)} (h : MatOk m a) {i j : Nat} (hi : i < m) (hj : j < m) : InM (e2 a i j) := (h.2 i hi).2 j hj
end Go.Pl
