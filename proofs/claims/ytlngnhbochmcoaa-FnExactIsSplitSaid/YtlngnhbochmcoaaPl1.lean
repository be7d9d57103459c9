import Derived.Test.YtlngnhbochmcoaaLib3
set_option linter.unusedSimpArgs false
set_option linter.unusedVariables false
namespace Go.Pl
def szs {α : Type} (f : α → Int → Int) : List α → Int → Int
 | [], l => l
 | x :: xs, l => if f x l < 0 then -1 else szs f xs (f x l)
def sz0 {α : Type} (f : α → Int → Int) (xs : List α) (l : Int) : Int := if l - xs.length < 0 then -1 else szs f xs (l - xs.length)
def sz1 (xs : List Int) (l : Int) : Int := if l - xs.length < 0 then -1 else l - xs.length
def sz2 : List (List Int) → Int → Int := sz0 sz1
def sz3 : List (List (List Int)) → Int → Int := sz0 sz2
def aK1 {α : Type} (f : α → Int → Int) : Prop := ∀ x l, 0 ≤ l → f x l = -1 ∨ (0 ≤ f x l ∧ f x l ≤ l)
theorem aT7 : aK1 sz1 := fun x l h => by unfold sz1; split <;> omega
theorem at7 {α : Type} {f : α → Int → Int} (h : aK1 f) : ∀ xs l, 0 ≤ l → szs f xs l = -1 ∨ (0 ≤ szs f xs l ∧ szs f xs l ≤ l)
 | [], l, hl => by simp only [szs]; omega
 | x :: xs, l, hl => by
  simp only [szs]
  split
  ·exact .inl rfl
  ·have := h x l hl
   have := at7 h xs (f x l) (by omega)
   omega
theorem au0 {α : Type} {f : α → Int → Int} (h : aK1 f) : aK1 (sz0 f) := fun x l hl => by
 unfold sz0
 split
 ·exact .inl rfl
 ·have := at7 h x (l - x.length) (by omega)
  omega
theorem aT8 : aK1 sz2 := au0 aT7
theorem Jj_ : aK1 sz3 := au0 aT8
theorem SL_ {α : Type} {f : α → Int → Int} {xs : List α} {k : Nat} {d : α} (h : k < xs.length) (l : Int) : szs f (xs.drop k) l = if f (xs.getD k d) l < 0 then -1 else szs f (xs.drop (k + 1)) (f (xs.getD k d) l) := by
 have e : xs.drop k = xs.getD k d :: xs.drop (k + 1) := by
  rw [List.drop_eq_getElem_cons h]
  simp [List.getD, h]
 rw [e]
 rfl
theorem Jk_ {α : Type} {f : α → Int → Int} {xs : List α} {k : Nat} (h : ¬ k < xs.length) (l : Int) : szs f (xs.drop k) l = l := by
 rw [List.drop_eq_nil_of_le (by omega)]; rfl
def fill {α : Type} (d : α) (xs : List α) (k : Nat) : List α := xs.take k ++ List.replicate (xs.length - k) d
theorem ZY_ {α : Type} {d : α} {xs : List α} : fill d xs 0 = List.replicate xs.length d := by simp [fill]
theorem VE_ {α : Type} {d : α} {xs : List α} {k : Nat} (h : xs.length ≤ k) : fill d xs k = xs := by
 simp only [fill]
 rw [List.take_of_length_le h, show xs.length - k = 0 by omega]; simp
theorem zi_ {α : Type} {d : α} {xs : List α} {k : Nat} (h : k ≤ xs.length) : (fill d xs k).length = xs.length := by
 simp only [fill, List.length_append, List.length_take, List.length_replicate]; omega
theorem ZZ_ {α : Type} {d : α} {xs : List α} {k : Nat} (h : k < xs.length) : (fill d xs k).set k (xs.getD k d) = fill d xs (k + 1) := by
 have e : xs.length - k = (xs.length - (k + 1)) + 1 := by omega
 simp only [fill]
 rw [e, List.replicate_succ, List.set_append_right _ _ (by simp; omega)]
 have h2 : k - (xs.take k).length = 0 := by simp; omega
 rw [h2, List.set_cons_zero, List.take_add_one]
 have h3 : xs[k]? = some (xs.getD k d) := by simp [List.getD, h]
 rw [h3]
 simp
def up (k : Int) (n : Nat) : List Int := (List.range n).map fun (i : Nat) => k + (i : Int)
section
variable {α : Type}
def tot (n : α → Nat) : List α → Nat
 | [] => 0
 | x :: xs => n x + tot n xs
end
def bi9 : List (List (List Int)) → Nat := tot (tot List.length)
end Go.Pl
namespace Go.Pl
theorem Zc_ {α : Type} {d : α} {xs : List α} {p : α → Prop} : (∀ x ∈ xs, p x) ↔ ∀ i, i < xs.length → p (xs.getD i d) := by
 constructor
 ·intro h i hi
  have : xs.getD i d = xs[i] := by simp [List.getD, hi]
  rw [this]; exact h _ (List.getElem_mem hi)
 ·intro h x hx
  obtain ⟨i, hi, rfl⟩ := List.mem_iff_getElem.1 hx
  have := h i hi
  simpa [List.getD, hi] using this
def Qp_ {α : Type} (p : α → Bool) (xs : List α) : Int := match xs.findIdx? p with
 | some i => (i : Int)
 | none => -1
theorem Z0_ {α : Type} {d : α} {p : α → Bool} {xs : List α} (h : ∀ i, i < xs.length → p (xs.getD i d) = false) : Qp_ p xs = -1 := by
 have : xs.findIdx? p = none := by
  rw [List.findIdx?_eq_none_iff]
  exact (Zc_ (d := d)).2 h
 simp [Qp_, this]
theorem XZ_ {α : Type} {d : α} {p : α → Bool} {xs : List α} {k : Nat} (hk : k < xs.length) (h : ∀ i, i < k → p (xs.getD i d) = false) (hp : p (xs.getD k d) = true) : Qp_ p xs = k := by
 have : xs.findIdx? p = some k := by
  rw [List.findIdx?_eq_some_iff_getElem]
  refine ⟨hk, by simpa [List.getD, hk] using hp, fun j hj => ?_⟩
  have := h j hj
  have hl : j < xs.length := by omega
  simpa [List.getD, hl] using this
 simp [Qp_, this]
theorem VF_ {α : Type} {p : α → Bool} {xs : List α} : decide (Qp_ p xs ≥ 0) = xs.any p := by
 unfold Qp_
 cases h : xs.findIdx? p with
 | none =>
  rw [List.findIdx?_eq_none_iff] at h
  have : xs.any p = false := by rw [List.any_eq_false]; exact fun x hx => by simp [h x hx]
  simp [this]
 | some i =>
  rw [List.findIdx?_eq_some_iff_getElem] at h
  obtain ⟨hi, hp, _⟩ := h
  have : xs.any p = true := List.any_eq_true.2 ⟨_, List.getElem_mem hi, hp⟩
  simp [this]
def InM (x : Int) : Prop := 0 ≤ x ∧ x ≤ 1000
def Qq_ (n : Nat) (r : List Int) : Prop := r.length = n ∧ ∀ k, k < n → InM (r.getD k 0)
def MatOk (n : Nat) (m : List (List Int)) : Prop := m.length = n ∧ ∀ j, j < n → Qq_ n (m.getD j [])
def Cube (t : List (List (List Int))) : Prop := 1 ≤ t.length ∧ t.length ≤ 16 ∧ ∀ i, i < t.length → MatOk t.length (t.getD i [])
abbrev e3 (t : List (List (List Int))) (i j k : Nat) : Int := ((t.getD i []).getD j []).getD k 0
abbrev e2 (m : List (List Int)) (i j : Nat) : Int := (m.getD i []).getD j 0
noncomputable def bd (p : Prop) : Bool := @decide p (Classical.propDecidable p)
theorem zj_ {p : Prop} (h : p) : bd p = true := by unfold bd; exact @decide_eq_true p (Classical.propDecidable p) h
theorem yn_ {p : Prop} (h : ¬ p) : bd p = false := by unfold bd; exact @decide_eq_false p (Classical.propDecidable p) h
theorem bd_iff {p : Prop} : bd p = true ↔ p := by unfold bd; exact @decide_eq_true_iff p (Classical.propDecidable p)
def WS_ (n : Int) (r : List Int) : Bool := (!decide ((r.length : Int) = n)) || !(!(r.any fun x => !(decide (0 ≤ x) && decide (x ≤ 1000))))
theorem rowBad_iff {n : Nat} {r : List Int} : WS_ n r = false ↔ Qq_ n r := by
 have h : (∀ x ∈ r, InM x) ↔ ∀ k, k < r.length → InM (r.getD k 0) := Zc_
 unfold WS_ Qq_
 simp only [Bool.or_eq_false_iff, Bool.not_eq_false', decide_eq_true_eq, Bool.not_not, List.any_eq_false, Bool.not_eq_true', Bool.and_eq_false_iff, decide_eq_false_iff_not, Int.natCast_inj]
 constructor
 ·rintro ⟨h1, h2⟩
  subst h1
  exact ⟨rfl, h.1 fun x hx => by have := h2 x hx; simp only [not_or, Decidable.not_not] at this; exact this⟩
 ·rintro ⟨h1, h2⟩
  subst h1
  exact ⟨rfl, fun x hx => by have := h.2 h2 x hx; simp only [not_or, Decidable.not_not]; exact this⟩
theorem matOk_iff {n : Nat} {m : List (List Int)} : MatOk n m ↔ m.length = n ∧ m.any (WS_ n) = false := by
 have h : (∀ r ∈ m, Qq_ n r) ↔ ∀ j, j < m.length → Qq_ n (m.getD j []) := Zc_
 unfold MatOk
 constructor
 ·rintro ⟨h1, h2⟩
  subst h1
  exact ⟨rfl, List.any_eq_false.2 fun r hr => by rw [rowBad_iff.2 (h.2 h2 r hr)]; simp⟩
 ·rintro ⟨h1, h2⟩
  subst h1
  exact ⟨rfl, h.1 fun r hr => rowBad_iff.1 (by have := List.any_eq_false.1 h2 r hr; simpa using this)⟩
theorem Cube.row {t : List (List (List Int))} (h : Cube t) {i j : Nat} (hi : i < t.length) (hj : j < t.length) : ((t.getD i []).getD j []).length = t.length := ((h.2.2 i hi).2 j hj).1
theorem Cube.mat {t : List (List (List Int))} (h : Cube t) {i : Nat} (hi : i < t.length) : (t.getD i []).length = t.length := (h.2.2 i hi).1
theorem Cube.inM {t : List (List (List Int))} (h : Cube t) {i j k : Nat} (hi : i < t.length) (hj : j < t.length) (hk : k < t.length) : InM (e3 t i j k) := ((h.2.2 i hi).2 j hj).2 k hk
theorem Yr_ {n k : Nat} (h : k < n) : (List.range n).drop k = k :: (List.range n).drop (k + 1) := by
 rw [List.drop_eq_getElem_cons (by simpa using h)]; simp
theorem WT_ {n k : Nat} (h : ¬ k < n) : (List.range n).drop k = [] := List.drop_eq_nil_of_le (by simp; omega)
def Z1_ (g : Nat → Int) : List Nat → Int → Int
 | [], out => out
 | j :: js, out => if g j = 0 then Z1_ g js out else if out < 0 ∧ g j = 1 then Z1_ g js j else -1
def dual (t : List (List (List Int))) (i : Nat) : Int := Z1_ (fun j => e3 t i j 0) (List.range t.length) (-1)
theorem Xq_ {g : Nat → Int} {n : Nat} : ∀ (l : List Nat) (out : Int), (∀ j ∈ l, j < n) → -1 ≤ out → out < n → -1 ≤ Z1_ g l out ∧ Z1_ g l out < n
 | [], out, _, h1, h2 => ⟨h1, h2⟩
 | j :: js, out, hl, h1, h2 => by
  have hj := hl j (List.mem_cons_self ..)
  have ih := fun o => Xq_ (g := g) (n := n) js o (fun j hj => hl j (List.mem_cons_of_mem _ hj))
  simp only [Z1_]
  split
  ·exact ih out h1 h2
  ·split
   ·exact ih j (by omega) (by omega)
   ·exact ⟨by omega, by omega⟩
theorem Ys_ (t : List (List (List Int))) (i : Nat) : -1 ≤ dual t i ∧ dual t i < t.length := by
 by_cases h : 0 < t.length
 ·exact Xq_ _ _ (by simp) (by omega) (by omega)
 ·have : t = [] := by cases t <;> simp at h ⊢
  subst this
  simp [dual, Z1_]
end Go.Pl
namespace Go.Pl
open Go.Aw
def first {α : Type} (n : Nat) (f : Nat → Option α) : Option α := (List.range n).findSome? f
theorem xY_ {α : Type} {n : Nat} {f : Nat → Option α} (h : ∀ i, i < n → f i = none) : first n f = none := by
 unfold first
 rw [List.findSome?_eq_none_iff]
 intro x hx
 exact h x (by simpa using hx)
theorem first_some {α : Type} {n : Nat} {f : Nat → Option α} {i : Nat} {a : α} (hi : i < n) (h : ∀ j, j < i → f j = none) (ha : f i = some a) : first n f = some a := by
 unfold first
 rw [List.findSome?_eq_some_iff]
 refine ⟨List.range i, i, (List.range n).drop (i + 1), ?_, ha, fun x hx => h x (by simpa using hx)⟩
 rw [← Yr_ hi]
 have : List.range i = (List.range n).take i := by rw [List.take_range, Nat.min_eq_left (by omega)]
 rw [this, List.take_append_drop]
def VG_ : Option (List Int) → AV
 | some xs => .l1 xs
 | none => .nil
def orE {α : Type} (a b : Option α) : Option α :=
 match a with
 | some x => some x
 | none => b
def sumTo (f : Nat → Int) : Nat → Int
 | 0 => 0
 | n + 1 => sumTo f n + f n
theorem sumTo_le {f : Nat → Int} {B : Int} {n : Nat} (h : ∀ i, i < n → 0 ≤ f i ∧ f i ≤ B) : 0 ≤ sumTo f n ∧ sumTo f n ≤ n * B := by
 induction n with
 | zero => simp [sumTo]
 | succ n ih =>
  have h1 := ih (fun i hi => h i (by omega))
  have h2 := h n (by omega)
  simp only [sumTo, Int.natCast_add, Int.add_mul]
  omega
theorem au1 {a b : Int} (ha : InM a) (hb : InM b) : 0 ≤ a * b ∧ a * b ≤ 1000000 := by
 refine ⟨Int.mul_nonneg ha.1 hb.1, ?_⟩
 have h1 : a * b ≤ 1000 * b := Int.mul_le_mul_of_nonneg_right ha.2 hb.1
 have := hb.2
 omega
def dl (i k : Nat) : Int := if (i : Int) = (k : Int) then 1 else 0
def TZ_ (t : List (List (List Int))) (i k : Nat) : Option (List Int) := if e3 t 0 i k ≠ dl i k ∨ e3 t i 0 k ≠ dl i k then some [0, (i : Int), (k : Int)] else none
def Y1_ (t : List (List (List Int))) : Option (List Int) := first t.length fun i => first t.length (TZ_ t i)
def Qr_ (t : List (List (List Int))) (i : Nat) : Option (List Int) := if dual t i < 0 ∨ dual t (dual t i).toNat ≠ i then some [1, (i : Int)] else none
def Yt_ (t : List (List (List Int))) : Option (List Int) := first t.length (Qr_ t)
def VH_ (t : List (List (List Int))) (i j k : Nat) : Option (List Int) := if e3 t i j k ≠ e3 t (dual t i).toNat k j ∨ e3 t i j k ≠ e3 t k (dual t j).toNat i then some [2, (i : Int), (j : Int), (k : Int)] else none
def Wt_ (t : List (List (List Int))) : Option (List Int) := first t.length fun i => first t.length fun j => first t.length (VH_ t i j)
def brL (t : List (List (List Int))) (i j k l m : Nat) : Int := e3 t i j m * e3 t m k l
def brR (t : List (List (List Int))) (i j k l m : Nat) : Int := e3 t j k m * e3 t i m l
def wL_ (t : List (List (List Int))) (i j k l : Nat) : Option (List Int) := if sumTo (brL t i j k l) t.length ≠ sumTo (brR t i j k l) t.length then some [3, (i : Int), (j : Int), (k : Int), (l : Int)] else none
def wM_ (t : List (List (List Int))) : Option (List Int) := first t.length fun i => first t.length fun j => first t.length fun k => first t.length (wL_ t i j k)
def yh_ (t : List (List (List Int))) : Option (List Int) := orE (Y1_ t) (orE (Yt_ t) (orE (Wt_ t) (wM_ t)))
theorem first_none_iff {α : Type} {n : Nat} {f : Nat → Option α} : first n f = none ↔ ∀ i, i < n → f i = none := by
 constructor
 ·intro h i hi
  unfold first at h
  rw [List.findSome?_eq_none_iff] at h
  exact h i (by simpa using hi)
 ·exact xY_
def ds (t : List (List (List Int))) : List Int := (List.range t.length).map (dual t)
theorem wd_ (t : List (List (List Int))) : (ds t).length = t.length := by simp [ds]
theorem Z2_ {t : List (List (List Int))} {i : Nat} (h : i < t.length) : (ds t).getD i 0 = dual t i := by simp [ds, List.getD, h]
theorem VI_ {t : List (List (List Int))} (hd : Yt_ t = none) {i : Nat} (h : i < t.length) : 0 ≤ dual t i ∧ (dual t i).toNat < t.length ∧ dual t (dual t i).toNat = i := by
 have h1 := first_none_iff.1 hd i h
 have h2 := Ys_ t i
 unfold Qr_ at h1
 split at h1
 ·cases h1
 ·rename_i h3
  simp only [not_or, Int.not_lt, ne_eq, Decidable.not_not] at h3
  exact ⟨h3.1, by omega, h3.2⟩
theorem au2 {t : List (List (List Int))} (hc : Cube t) {i j k l : Nat} (hi : i < t.length) (hj : j < t.length) (hk : k < t.length) (hl : l < t.length) : ∀ m, m < t.length → 0 ≤ brL t i j k l m ∧ brL t i j k l m ≤ 1000000 := fun _ hm => au1 (hc.inM hi hj hm) (hc.inM hm hk hl)
theorem au3 {t : List (List (List Int))} (hc : Cube t) {i j k l : Nat} (hi : i < t.length) (hj : j < t.length) (hk : k < t.length) (hl : l < t.length) : ∀ m, m < t.length → 0 ≤ brR t i j k l m ∧ brR t i j k l m ≤ 1000000 := fun _ hm => au1 (hc.inM hj hk hm) (hc.inM hi hm hl)
theorem yS_ {α : Type} {P : α → Prop} {n : Nat} {f : Nat → Option α} {a : α} (h : first n f = some a) (hp : ∀ i x, f i = some x → P x) : P a := by
 unfold first at h
 rw [List.findSome?_eq_some_iff] at h
 obtain ⟨_, i, _, _, hi, _⟩ := h
 exact hp i a hi
theorem SM_ {t : List (List (List Int))} {u : List Int} (h : Y1_ t = some u) : 0 < u.length :=
 yS_ (P := fun u => 0 < u.length) h fun i x hx => yS_ (P := fun u => 0 < u.length) hx fun k y hy => by
  unfold TZ_ at hy; split at hy <;> cases hy; simp
theorem SN_ {t : List (List (List Int))} {u : List Int} (h : Wt_ t = some u) : 0 < u.length :=
 yS_ (P := fun u => 0 < u.length) h fun i x hx => yS_ (P := fun u => 0 < u.length) hx fun k y hy => yS_ (P := fun u => 0 < u.length) hy fun k z hz => by
  unfold VH_ at hz; split at hz <;> cases hz; simp
theorem Jl_ {t : List (List (List Int))} {u : List Int} (h : wM_ t = some u) : 0 < u.length :=
 yS_ (P := fun u => 0 < u.length) h fun i x hx => yS_ (P := fun u => 0 < u.length) hx fun k y hy => yS_ (P := fun u => 0 < u.length) hy fun k z hz => yS_ (P := fun u => 0 < u.length) hz fun k q hq => by
  unfold wL_ at hq; split at hq <;> cases hq; simp
theorem Z3_ {t : List (List (List Int))} {u : List Int} (h : Yt_ t = some u) : ∃ i : Nat, u = [1, (i : Int)] :=
 yS_ (P := fun u => ∃ i : Nat, u = [1, (i : Int)]) h fun i x hx => by
  unfold Qr_ at hx; split at hx <;> cases hx; exact ⟨i, rfl⟩
theorem UO_ {t : List (List (List Int))} {u : List Int} (h : yh_ t = some u) : 0 < u.length := by
 unfold yh_ orE at h
 cases h1 : Y1_ t with
 | some x => rw [h1] at h; cases h; exact SM_ h1
 | none =>
  rw [h1] at h
  cases h2 : Yt_ t with
  | some x => rw [h2] at h; cases h; obtain ⟨i, rfl⟩ := Z3_ h2; simp
  | none =>
   rw [h2] at h
   cases h3 : Wt_ t with
   | some x => rw [h3] at h; cases h; exact SN_ h3
   | none => rw [h3] at h; exact Jl_ h
end Go.Pl
namespace Go.Pl
open Go.Aw
def Fam (t a : List (List (List Int))) : Prop := a.length = t.length ∧ a.length ≠ 0 ∧ 1 ≤ (a.getD 0 []).length ∧ (a.getD 0 []).length ≤ 16 ∧ ∀ i, i < a.length → MatOk (a.getD 0 []).length (a.getD i [])
def ao2 (n : Nat) : List (List Int) := (List.range n).map fun i => (List.replicate n 0).set i 1
def Wu_ (a : List (List Int)) : List (List Int) := (List.range (a.getD 0 []).length).map fun k => (List.range a.length).map fun i => e2 a i k
noncomputable def zM_ (t : List (List (List Int))) : Bool := bd (Cube t ∧ yh_ t = none)
theorem Fam.mat {t a : List (List (List Int))} (h : Fam t a) {i : Nat} (hi : i < a.length) : (a.getD i []).length = (a.getD 0 []).length := (h.2.2.2.2 i hi).1
theorem Fam.row {t a : List (List (List Int))} (h : Fam t a) {i j : Nat} (hi : i < a.length) (hj : j < (a.getD 0 []).length) : ((a.getD i []).getD j []).length = (a.getD 0 []).length := ((h.2.2.2.2 i hi).2 j hj).1
theorem Fam.inM {t a : List (List (List Int))} (h : Fam t a) {i j k : Nat} (hi : i < a.length) (hj : j < (a.getD 0 []).length) (hk : k < (a.getD 0 []).length) : InM (e3 a i j k) := ((h.2.2.2.2 i hi).2 j hj).2 k hk
theorem Xr_ {t : List (List (List Int))} (h : zM_ t = true) : Cube t ∧ yh_ t = none := bd_iff.1 h
end Go.Pl
namespace Go.Pl
open Go.Aw
def xU_ (c : Nat) (f : Nat → Int) : List Int := (List.range c).map f
def xy_ (r c : Nat) (f : Nat → Nat → Int) : List (List Int) := (List.range r).map fun i => xU_ c (f i)
theorem xn_ (c : Nat) (f : Nat → Int) : (xU_ c f).length = c := by simp [xU_]
theorem xx_ (r c : Nat) (f : Nat → Nat → Int) : (xy_ r c f).length = r := by simp [xy_]
theorem xE_ {c : Nat} {f : Nat → Int} {j : Nat} (h : j < c) : (xU_ c f).getD j 0 = f j := by simp [xU_, List.getD, h]
theorem xF_ {r c : Nat} {f : Nat → Nat → Int} {i : Nat} (h : i < r) : (xy_ r c f).getD i [] = xU_ c (f i) := by simp [xy_, List.getD, h]
theorem yr_ {c : Nat} {f g : Nat → Int} (h : ∀ j, j < c → f j = g j) : xU_ c f = xU_ c g := List.map_congr_left (fun j hj => h j (by simpa using hj))
theorem xC_ {r c : Nat} {f g : Nat → Nat → Int} (h : ∀ i, i < r → ∀ j, j < c → f i j = g i j) : xy_ r c f = xy_ r c g := List.map_congr_left (fun i hi => yr_ (h i (by simpa using hi)))
theorem Qs_ (r c : Nat) : List.replicate r (List.replicate c (0 : Int)) = xy_ r c (fun _ _ => 0) := by
 simp [xy_, xU_, List.map_const']
theorem wn_ {c : Nat} {f : Nat → Int} {j : Nat} {v : Int} : (xU_ c f).set j v = xU_ c (fun y => if y = j then v else f y) := by
 apply List.ext_getElem
 ·simp [xU_]
 ·intro n h1 h2
  simp only [xU_, List.getElem_set, List.getElem_map, List.getElem_range]
  by_cases h : j = n
  ·subst h; simp
  ·rw [if_neg h, if_neg (fun e => h e.symm)]
theorem X0_ {r c : Nat} {f : Nat → Nat → Int} {i j : Nat} {v : Int} (h : i < r) : (xy_ r c f).set i (((xy_ r c f).getD i []).set j v) = xy_ r c (fun x y => if x = i ∧ y = j then v else f x y) := by
 rw [xF_ h, wn_]
 apply List.ext_getElem
 ·simp [xy_]
 ·intro n h1 h2
  simp only [xy_, List.getElem_set, List.getElem_map, List.getElem_range]
  by_cases hn : i = n
  ·subst hn; simp
  ·rw [if_neg hn]
   exact yr_ fun y _ => by rw [if_neg (fun e => hn e.1.symm)]
theorem Yu_ (a : List (List Int)) : Wu_ a = xy_ (a.getD 0 []).length a.length (fun k i => e2 a i k) := rfl
def Qt_ (r v : List Int) (y : Nat) : Int := r.getD y 0 * v.getD y 0
theorem MatOk.row {m : Nat} {a : List (List Int)} (h : MatOk m a) {i : Nat} (hi : i < m) : (a.getD i []).length = m := (h.2 i hi).1
theorem MatOk.inM {m : Nat} {a : List (List Int)} (h : MatOk m a) {i j : Nat} (hi : i < m) (hj : j < m) : InM (e2 a i j) := (h.2 i hi).2 j hj
end Go.Pl
