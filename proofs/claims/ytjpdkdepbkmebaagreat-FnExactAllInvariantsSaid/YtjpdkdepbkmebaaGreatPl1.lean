import Derived.Test.YtjpdkdepbkmebaaGreatLib3
set_option linter.unusedSimpArgs false
set_option linter.unusedVariables false
namespace Go.Pl
def szs {α : Type} (f : α → Int → Int) : List α → Int → Int
 | [], l => l
 | x :: xs, l => if f x l < 0 then -1 else szs f xs (f x l)
def sz0 {α : Type} (f : α → Int → Int) (xs : List α) (l : Int) : Int := if l - xs.length < 0 then -1 else szs f xs (l - xs.length)
def sz1 (xs : List Int) (l : Int) : Int := if l - xs.length < 0 then -1 else l - xs.length
def sz2 : List (List Int) → Int → Int := sz0 sz1
def SzOk {α : Type} (f : α → Int → Int) : Prop := ∀ x l, 0 ≤ l → f x l = -1 ∨ (0 ≤ f x l ∧ f x l ≤ l)
theorem sz1_ok : SzOk sz1 := fun x l h => by unfold sz1; split <;> omega
theorem szs_ok {α : Type} {f : α → Int → Int} (h : SzOk f) : ∀ xs l, 0 ≤ l → szs f xs l = -1 ∨ (0 ≤ szs f xs l ∧ szs f xs l ≤ l)
 | [], l, hl => by simp only [szs]; omega
 | x :: xs, l, hl => by
  simp only [szs]
  split
  ·exact .inl rfl
  ·have := h x l hl
   have := szs_ok h xs (f x l) (by omega)
   omega
theorem sz0_ok {α : Type} {f : α → Int → Int} (h : SzOk f) : SzOk (sz0 f) := fun x l hl => by
 unfold sz0
 split
 ·exact .inl rfl
 ·have := szs_ok h x (l - x.length) (by omega)
  omega
theorem sz2_ok : SzOk sz2 := sz0_ok sz1_ok
theorem szs_step {α : Type} {f : α → Int → Int} {xs : List α} {k : Nat} {d : α} (h : k < xs.length) (l : Int) : szs f (xs.drop k) l = if f (xs.getD k d) l < 0 then -1 else szs f (xs.drop (k + 1)) (f (xs.getD k d) l) := by
 have e : xs.drop k = xs.getD k d :: xs.drop (k + 1) := by
  rw [List.drop_eq_getElem_cons h]
  simp [List.getD, h]
 rw [e]
 rfl
theorem szs_end {α : Type} {f : α → Int → Int} {xs : List α} {k : Nat} (h : ¬ k < xs.length) (l : Int) : szs f (xs.drop k) l = l := by
 rw [List.drop_eq_nil_of_le (by omega)]; rfl
def fill {α : Type} (d : α) (xs : List α) (k : Nat) : List α := xs.take k ++ List.replicate (xs.length - k) d
theorem fill_zero {α : Type} {d : α} {xs : List α} : fill d xs 0 = List.replicate xs.length d := by simp [fill]
theorem fill_all {α : Type} {d : α} {xs : List α} {k : Nat} (h : xs.length ≤ k) : fill d xs k = xs := by
 simp only [fill]
 rw [List.take_of_length_le h, show xs.length - k = 0 by omega]; simp
theorem fill_length {α : Type} {d : α} {xs : List α} {k : Nat} (h : k ≤ xs.length) : (fill d xs k).length = xs.length := by
 simp only [fill, List.length_append, List.length_take, List.length_replicate]; omega
theorem fill_step {α : Type} {d : α} {xs : List α} {k : Nat} (h : k < xs.length) : (fill d xs k).set k (xs.getD k d) = fill d xs (k + 1) := by
 have e : xs.length - k = (xs.length - (k + 1)) + 1 := by omega
 simp only [fill]
 rw [e, List.replicate_succ, List.set_append_right _ _ (by simp; omega)]
 have h2 : k - (xs.take k).length = 0 := by simp; omega
 rw [h2, List.set_cons_zero, List.take_add_one]
 have h3 : xs[k]? = some (xs.getD k d) := by simp [List.getD, h]
 rw [h3]
 simp
def up (k : Int) (n : Nat) : List Int := (List.range n).map fun (i : Nat) => k + (i : Int)
theorem up_length (k : Int) (n : Nat) : (up k n).length = n := by simp [up]
theorem up_succ (k : Int) (n : Nat) : up k (n + 1) = up k n ++ [k + n] := by simp [up, List.range_succ]
theorem up_step {k : Int} {i : Nat} {xs : List Int} (h : i < xs.length) : (up k i ++ xs.drop i).set i (k + i) = up k (i + 1) ++ xs.drop (i + 1) := by
 rw [List.set_append_right _ _ (by simp [up]), up_length, Nat.sub_self, List.drop_eq_getElem_cons h, List.set_cons_zero, up_succ]
 simp
theorem up_end {k : Int} {i : Nat} {xs : List Int} (h : ¬ i < xs.length) : up k i ++ xs.drop i = up k i := by
 rw [List.drop_eq_nil_of_le (by omega)]; simp
theorem up_get {k : Int} {n i : Nat} (h : i < n) : (up k n).getD i 0 = k + i := by simp [up, List.getD, h]
section
variable {α : Type}
def tot (n : α → Nat) : List α → Nat
 | [] => 0
 | x :: xs => n x + tot n xs
def marks (f : α → Int → α) (n : α → Nat) : Int → List α → List α
 | _, [] => []
 | k, x :: xs => f x k :: marks f n (k + n x) xs
theorem marks_length {f : α → Int → α} {n : α → Nat} : ∀ (k : Int) (xs : List α), (marks f n k xs).length = xs.length
 | _, [] => rfl
 | k, x :: xs => by simp [marks, marks_length (k + n x) xs]
theorem tot_take_le {n : α → Nat} : ∀ (i : Nat) (xs : List α), tot n (xs.take i) ≤ tot n xs
 | 0, _ => by simp [tot]
 | i + 1, [] => by simp
 | i + 1, x :: xs => by simp only [List.take_succ_cons, tot]; have := tot_take_le (n := n) i xs; omega
theorem tot_step {n : α → Nat} {d : α} : ∀ {i : Nat} {xs : List α}, i < xs.length → tot n (xs.take (i + 1)) = tot n (xs.take i) + n (xs.getD i d)
 | 0, x :: xs, _ => by simp [tot]
 | i + 1, x :: xs, h => by
  have := tot_step (n := n) (d := d) (i := i) (xs := xs) (by simpa using h)
  simp only [List.take_succ_cons, tot, List.getD_cons_succ, this]; omega
 | _, [], h => by simp at h
def mix (f : α → Int → α) (n : α → Nat) (k : Int) (xs : List α) (i : Nat) : List α := (marks f n k xs).take i ++ xs.drop i
theorem mix_length {f : α → Int → α} {n : α → Nat} {k : Int} {xs : List α} {i : Nat} (h : i ≤ xs.length) : (mix f n k xs i).length = xs.length := by
 simp only [mix, List.length_append, List.length_take, List.length_drop, marks_length]; omega
theorem mix_get {f : α → Int → α} {n : α → Nat} {k : Int} {xs : List α} {i : Nat} {d : α} (h : i < xs.length) : (mix f n k xs i).getD i d = xs.getD i d := by
 have e : ((marks f n k xs).take i).length = i := by simp [marks_length]; omega
 simp only [mix, List.getD]
 rw [List.getElem?_append_right (by omega), e]
 simp
theorem marks_get {f : α → Int → α} {n : α → Nat} {d : α} : ∀ {k : Int} {xs : List α} {i : Nat}, i < xs.length → (marks f n k xs)[i]? = some (f (xs.getD i d) (k + tot n (xs.take i)))
 | k, x :: xs, 0, _ => by simp [marks, tot]
 | k, x :: xs, i + 1, h => by
  have := marks_get (f := f) (n := n) (d := d) (k := k + n x) (xs := xs) (i := i) (by simpa using h)
  simp only [marks, List.getElem?_cons_succ, this, List.getD_cons_succ, List.take_succ_cons, tot]
  congr 2; omega
 | _, [], _, h => by simp at h
theorem mix_step {f : α → Int → α} {n : α → Nat} {k : Int} {xs : List α} {i : Nat} {d : α} (h : i < xs.length) : (mix f n k xs i).set i (f (xs.getD i d) (k + tot n (xs.take i))) = mix f n k xs (i + 1) := by
 have e : ((marks f n k xs).take i).length = i := by simp [marks_length]; omega
 simp only [mix]
 rw [List.set_append_right _ _ (by omega), e, Nat.sub_self, List.drop_eq_getElem_cons h, List.set_cons_zero, List.take_add_one, marks_get (d := d) h]
 simp
theorem mix_zero {f : α → Int → α} {n : α → Nat} {k : Int} {xs : List α} : mix f n k xs 0 = xs := by simp [mix]
theorem mix_end {f : α → Int → α} {n : α → Nat} {k : Int} {xs : List α} : mix f n k xs xs.length = marks f n k xs := by
 simp only [mix]; rw [List.take_of_length_le (by rw [marks_length]; exact Nat.le_refl _)]; simp
end
def mrk1 (xs : List Int) (k : Int) : List Int := up k xs.length
def mrk2 (xs : List (List Int)) (k : Int) : List (List Int) := marks mrk1 List.length k xs
def mrk3 (xs : List (List (List Int))) (k : Int) : List (List (List Int)) := marks mrk2 (tot List.length) k xs
def tot2 : List (List Int) → Nat := tot List.length
def tot3 : List (List (List Int)) → Nat := tot (tot List.length)
end Go.Pl
namespace Go.Pl
theorem all_getD {α : Type} {d : α} {xs : List α} {p : α → Prop} : (∀ x ∈ xs, p x) ↔ ∀ i, i < xs.length → p (xs.getD i d) := by
 constructor
 ·intro h i hi
  have : xs.getD i d = xs[i] := by simp [List.getD, hi]
  rw [this]; exact h _ (List.getElem_mem hi)
 ·intro h x hx
  obtain ⟨i, hi, rfl⟩ := List.mem_iff_getElem.1 hx
  have := h i hi
  simpa [List.getD, hi] using this
def fidx {α : Type} (p : α → Bool) (xs : List α) : Int := match xs.findIdx? p with
 | some i => (i : Int)
 | none => -1
theorem fidx_none {α : Type} {d : α} {p : α → Bool} {xs : List α} (h : ∀ i, i < xs.length → p (xs.getD i d) = false) : fidx p xs = -1 := by
 have : xs.findIdx? p = none := by
  rw [List.findIdx?_eq_none_iff]
  exact (all_getD (d := d)).2 h
 simp [fidx, this]
theorem fidx_some {α : Type} {d : α} {p : α → Bool} {xs : List α} {k : Nat} (hk : k < xs.length) (h : ∀ i, i < k → p (xs.getD i d) = false) (hp : p (xs.getD k d) = true) : fidx p xs = k := by
 have : xs.findIdx? p = some k := by
  rw [List.findIdx?_eq_some_iff_getElem]
  refine ⟨hk, by simpa [List.getD, hk] using hp, fun j hj => ?_⟩
  have := h j hj
  have hl : j < xs.length := by omega
  simpa [List.getD, hl] using this
 simp [fidx, this]
theorem fidx_any {α : Type} {p : α → Bool} {xs : List α} : decide (fidx p xs ≥ 0) = xs.any p := by
 unfold fidx
 cases h : xs.findIdx? p with
 | none =>
  rw [List.findIdx?_eq_none_iff] at h
  have : xs.any p = false := by rw [List.any_eq_false]; exact fun x hx => by simp [h x hx]
  simp [this]
 | some i =>
  rw [List.findIdx?_eq_some_iff_getElem] at h
  obtain ⟨hi, hp, _⟩ := h
  have : xs.any p = true := List.any_eq_true.2 ⟨_, List.getElem_mem hi, hp⟩
  simp [this]
def InM (x : Int) : Prop := 0 ≤ x ∧ x ≤ 1000
def RowOk (n : Nat) (r : List Int) : Prop := r.length = n ∧ ∀ k, k < n → InM (r.getD k 0)
def MatOk (n : Nat) (m : List (List Int)) : Prop := m.length = n ∧ ∀ j, j < n → RowOk n (m.getD j [])
def Cube (t : List (List (List Int))) : Prop := 1 ≤ t.length ∧ t.length ≤ 16 ∧ ∀ i, i < t.length → MatOk t.length (t.getD i [])
abbrev e3 (t : List (List (List Int))) (i j k : Nat) : Int := ((t.getD i []).getD j []).getD k 0
abbrev e2 (m : List (List Int)) (i j : Nat) : Int := (m.getD i []).getD j 0
noncomputable def bd (p : Prop) : Bool := @decide p (Classical.propDecidable p)
theorem bd_true {p : Prop} (h : p) : bd p = true := by unfold bd; exact @decide_eq_true p (Classical.propDecidable p) h
theorem bd_false {p : Prop} (h : ¬ p) : bd p = false := by unfold bd; exact @decide_eq_false p (Classical.propDecidable p) h
theorem bd_iff {p : Prop} : bd p = true ↔ p := by unfold bd; exact @decide_eq_true_iff p (Classical.propDecidable p)
def rowBad (n : Int) (r : List Int) : Bool := (!decide ((r.length : Int) = n)) || !(!(r.any fun x => !(decide (0 ≤ x) && decide (x ≤ 1000))))
theorem rowBad_iff {n : Nat} {r : List Int} : rowBad n r = false ↔ RowOk n r := by
 have h : (∀ x ∈ r, InM x) ↔ ∀ k, k < r.length → InM (r.getD k 0) := all_getD
 unfold rowBad RowOk
 simp only [Bool.or_eq_false_iff, Bool.not_eq_false', decide_eq_true_eq, Bool.not_not, List.any_eq_false, Bool.not_eq_true', Bool.and_eq_false_iff, decide_eq_false_iff_not, Int.natCast_inj]
 constructor
 ·rintro ⟨h1, h2⟩
  subst h1
  exact ⟨rfl, h.1 fun x hx => by have := h2 x hx; simp only [not_or, Decidable.not_not] at this; exact this⟩
 ·rintro ⟨h1, h2⟩
  subst h1
  exact ⟨rfl, fun x hx => by have := h.2 h2 x hx; simp only [not_or, Decidable.not_not]; exact this⟩
theorem matOk_iff {n : Nat} {m : List (List Int)} : MatOk n m ↔ m.length = n ∧ m.any (rowBad n) = false := by
 have h : (∀ r ∈ m, RowOk n r) ↔ ∀ j, j < m.length → RowOk n (m.getD j []) := all_getD
 unfold MatOk
 constructor
 ·rintro ⟨h1, h2⟩
  subst h1
  exact ⟨rfl, List.any_eq_false.2 fun r hr => by rw [rowBad_iff.2 (h.2 h2 r hr)]; simp⟩
 ·rintro ⟨h1, h2⟩
  subst h1
  exact ⟨rfl, h.1 fun r hr => rowBad_iff.1 (by have := List.any_eq_false.1 h2 r hr; simpa using this)⟩
theorem Cube.row {t : List (List (List Int))} (h : Cube t) {i j : Nat} (hi : i < t.length) (hj : j < t.length) : ((t.getD i []).getD j []).length = t.length := ((h.2.2 i hi).2 j hj).1
theorem Cube.mat {t : List (List (List Int))} (h : Cube t) {i : Nat} (hi : i < t.length) : (t.getD i []).length = t.length := (h.2.2 i hi).1
theorem Cube.inM {t : List (List (List Int))} (h : Cube t) {i j k : Nat} (hi : i < t.length) (hj : j < t.length) (hk : k < t.length) : InM (e3 t i j k) := ((h.2.2 i hi).2 j hj).2 k hk
theorem range_drop {n k : Nat} (h : k < n) : (List.range n).drop k = k :: (List.range n).drop (k + 1) := by
 rw [List.drop_eq_getElem_cons (by simpa using h)]; simp
theorem range_done {n k : Nat} (h : ¬ k < n) : (List.range n).drop k = [] := List.drop_eq_nil_of_le (by simp; omega)
def dualG (g : Nat → Int) : List Nat → Int → Int
 | [], out => out
 | j :: js, out => if g j = 0 then dualG g js out else if out < 0 ∧ g j = 1 then dualG g js j else -1
def dual (t : List (List (List Int))) (i : Nat) : Int := dualG (fun j => e3 t i j 0) (List.range t.length) (-1)
theorem dualG_range {g : Nat → Int} {n : Nat} : ∀ (l : List Nat) (out : Int), (∀ j ∈ l, j < n) → -1 ≤ out → out < n → -1 ≤ dualG g l out ∧ dualG g l out < n
 | [], out, _, h1, h2 => ⟨h1, h2⟩
 | j :: js, out, hl, h1, h2 => by
  have hj := hl j (List.mem_cons_self ..)
  have ih := fun o => dualG_range (g := g) (n := n) js o (fun j hj => hl j (List.mem_cons_of_mem _ hj))
  simp only [dualG]
  split
  ·exact ih out h1 h2
  ·split
   ·exact ih j (by omega) (by omega)
   ·exact ⟨by omega, by omega⟩
theorem dual_range (t : List (List (List Int))) (i : Nat) : -1 ≤ dual t i ∧ dual t i < t.length := by
 by_cases h : 0 < t.length
 ·exact dualG_range _ _ (by simp) (by omega) (by omega)
 ·have : t = [] := by cases t <;> simp at h ⊢
  subst this
  simp [dual, dualG]
end Go.Pl
namespace Go.Pl
open Go.Aw
def first {α : Type} (n : Nat) (f : Nat → Option α) : Option α := (List.range n).findSome? f
theorem first_none {α : Type} {n : Nat} {f : Nat → Option α} (h : ∀ i, i < n → f i = none) : first n f = none := by
 unfold first
 rw [List.findSome?_eq_none_iff]
 intro x hx
 exact h x (by simpa using hx)
theorem first_some {α : Type} {n : Nat} {f : Nat → Option α} {i : Nat} {a : α} (hi : i < n) (h : ∀ j, j < i → f j = none) (ha : f i = some a) : first n f = some a := by
 unfold first
 rw [List.findSome?_eq_some_iff]
 refine ⟨List.range i, i, (List.range n).drop (i + 1), ?_, ha, fun x hx => h x (by simpa using hx)⟩
 rw [← range_drop hi]
 have : List.range i = (List.range n).take i := by rw [List.take_range, Nat.min_eq_left (by omega)]
 rw [this, List.take_append_drop]
def optA : Option (List Int) → AV
 | some xs => .l1 xs
 | none => .nil
def orE {α : Type} (a b : Option α) : Option α :=
 match a with
 | some x => some x
 | none => b
def sumTo (f : Nat → Int) : Nat → Int
 | 0 => 0
 | n + 1 => sumTo f n + f n
theorem sumTo_le {f : Nat → Int} {B : Int} {n : Nat} (h : ∀ i, i < n → 0 ≤ f i ∧ f i ≤ B) : 0 ≤ sumTo f n ∧ sumTo f n ≤ n * B := by
 induction n with
 | zero => simp [sumTo]
 | succ n ih =>
  have h1 := ih (fun i hi => h i (by omega))
  have h2 := h n (by omega)
  simp only [sumTo, Int.natCast_add, Int.add_mul]
  omega
theorem mul_bd {a b : Int} (ha : InM a) (hb : InM b) : 0 ≤ a * b ∧ a * b ≤ 1000000 := by
 refine ⟨Int.mul_nonneg ha.1 hb.1, ?_⟩
 have h1 : a * b ≤ 1000 * b := Int.mul_le_mul_of_nonneg_right ha.2 hb.1
 have := hb.2
 omega
def dl (i k : Nat) : Int := if (i : Int) = (k : Int) then 1 else 0
def unitG (t : List (List (List Int))) (i k : Nat) : Option (List Int) := if e3 t 0 i k ≠ dl i k ∨ e3 t i 0 k ≠ dl i k then some [0, (i : Int), (k : Int)] else none
def unitF (t : List (List (List Int))) : Option (List Int) := first t.length fun i => first t.length (unitG t i)
def dualH (t : List (List (List Int))) (i : Nat) : Option (List Int) := if dual t i < 0 ∨ dual t (dual t i).toNat ≠ i then some [1, (i : Int)] else none
def dualF (t : List (List (List Int))) : Option (List Int) := first t.length (dualH t)
def turnG (t : List (List (List Int))) (i j k : Nat) : Option (List Int) := if e3 t i j k ≠ e3 t (dual t i).toNat k j ∨ e3 t i j k ≠ e3 t k (dual t j).toNat i then some [2, (i : Int), (j : Int), (k : Int)] else none
def turnF (t : List (List (List Int))) : Option (List Int) := first t.length fun i => first t.length fun j => first t.length (turnG t i j)
def brL (t : List (List (List Int))) (i j k l m : Nat) : Int := e3 t i j m * e3 t m k l
def brR (t : List (List (List Int))) (i j k l m : Nat) : Int := e3 t j k m * e3 t i m l
def brackG (t : List (List (List Int))) (i j k l : Nat) : Option (List Int) := if sumTo (brL t i j k l) t.length ≠ sumTo (brR t i j k l) t.length then some [3, (i : Int), (j : Int), (k : Int), (l : Int)] else none
def brackF (t : List (List (List Int))) : Option (List Int) := first t.length fun i => first t.length fun j => first t.length fun k => first t.length (brackG t i j k)
def faultF (t : List (List (List Int))) : Option (List Int) := orE (unitF t) (orE (dualF t) (orE (turnF t) (brackF t)))
theorem first_none_iff {α : Type} {n : Nat} {f : Nat → Option α} : first n f = none ↔ ∀ i, i < n → f i = none := by
 constructor
 ·intro h i hi
  unfold first at h
  rw [List.findSome?_eq_none_iff] at h
  exact h i (by simpa using hi)
 ·exact first_none
def ds (t : List (List (List Int))) : List Int := (List.range t.length).map (dual t)
theorem ds_length (t : List (List (List Int))) : (ds t).length = t.length := by simp [ds]
theorem ds_get {t : List (List (List Int))} {i : Nat} (h : i < t.length) : (ds t).getD i 0 = dual t i := by simp [ds, List.getD, h]
theorem dual_ok {t : List (List (List Int))} (hd : dualF t = none) {i : Nat} (h : i < t.length) : 0 ≤ dual t i ∧ (dual t i).toNat < t.length ∧ dual t (dual t i).toNat = i := by
 have h1 := first_none_iff.1 hd i h
 have h2 := dual_range t i
 unfold dualH at h1
 split at h1
 ·cases h1
 ·rename_i h3
  simp only [not_or, Int.not_lt, ne_eq, Decidable.not_not] at h3
  exact ⟨h3.1, by omega, h3.2⟩
theorem brL_bd {t : List (List (List Int))} (hc : Cube t) {i j k l : Nat} (hi : i < t.length) (hj : j < t.length) (hk : k < t.length) (hl : l < t.length) : ∀ m, m < t.length → 0 ≤ brL t i j k l m ∧ brL t i j k l m ≤ 1000000 := fun _ hm => mul_bd (hc.inM hi hj hm) (hc.inM hm hk hl)
theorem brR_bd {t : List (List (List Int))} (hc : Cube t) {i j k l : Nat} (hi : i < t.length) (hj : j < t.length) (hk : k < t.length) (hl : l < t.length) : ∀ m, m < t.length → 0 ≤ brR t i j k l m ∧ brR t i j k l m ≤ 1000000 := fun _ hm => mul_bd (hc.inM hj hk hm) (hc.inM hi hm hl)
theorem first_all {α : Type} {P : α → Prop} {n : Nat} {f : Nat → Option α} {a : α} (h : first n f = some a) (hp : ∀ i x, f i = some x → P x) : P a := by
 unfold first at h
 rw [List.findSome?_eq_some_iff] at h
 obtain ⟨_, i, _, _, hi, _⟩ := h
 exact hp i a hi
theorem unitF_ne {t : List (List (List Int))} {u : List Int} (h : unitF t = some u) : 0 < u.length :=
 first_all (P := fun u => 0 < u.length) h fun i x hx => first_all (P := fun u => 0 < u.length) hx fun k y hy => by
  unfold unitG at hy; split at hy <;> cases hy; simp
theorem turnF_ne {t : List (List (List Int))} {u : List Int} (h : turnF t = some u) : 0 < u.length :=
 first_all (P := fun u => 0 < u.length) h fun i x hx => first_all (P := fun u => 0 < u.length) hx fun k y hy => first_all (P := fun u => 0 < u.length) hy fun k z hz => by
  unfold turnG at hz; split at hz <;> cases hz; simp
theorem brackF_ne {t : List (List (List Int))} {u : List Int} (h : brackF t = some u) : 0 < u.length :=
 first_all (P := fun u => 0 < u.length) h fun i x hx => first_all (P := fun u => 0 < u.length) hx fun k y hy => first_all (P := fun u => 0 < u.length) hy fun k z hz => first_all (P := fun u => 0 < u.length) hz fun k q hq => by
  unfold brackG at hq; split at hq <;> cases hq; simp
theorem dualF_shape {t : List (List (List Int))} {u : List Int} (h : dualF t = some u) : ∃ i : Nat, u = [1, (i : Int)] :=
 first_all (P := fun u => ∃ i : Nat, u = [1, (i : Int)]) h fun i x hx => by
  unfold dualH at hx; split at hx <;> cases hx; exact ⟨i, rfl⟩
theorem faultF_ne {t : List (List (List Int))} {u : List Int} (h : faultF t = some u) : 0 < u.length := by
 unfold faultF orE at h
 cases h1 : unitF t with
 | some x => rw [h1] at h; cases h; exact unitF_ne h1
 | none =>
  rw [h1] at h
  cases h2 : dualF t with
  | some x => rw [h2] at h; cases h; obtain ⟨i, rfl⟩ := dualF_shape h2; simp
  | none =>
   rw [h2] at h
   cases h3 : turnF t with
   | some x => rw [h3] at h; cases h; exact turnF_ne h3
   | none => rw [h3] at h; exact brackF_ne h
end Go.Pl
namespace Go.Pl
open Go.Aw
def Fam (t a : List (List (List Int))) : Prop := a.length = t.length ∧ a.length ≠ 0 ∧ 1 ≤ (a.getD 0 []).length ∧ (a.getD 0 []).length ≤ 16 ∧ ∀ i, i < a.length → MatOk (a.getD 0 []).length (a.getD i [])
def turnM (a : List (List Int)) : List (List Int) := (List.range (a.getD 0 []).length).map fun k => (List.range a.length).map fun i => e2 a i k
noncomputable def isRing (t : List (List (List Int))) : Bool := bd (Cube t ∧ faultF t = none)
theorem Fam.mat {t a : List (List (List Int))} (h : Fam t a) {i : Nat} (hi : i < a.length) : (a.getD i []).length = (a.getD 0 []).length := (h.2.2.2.2 i hi).1
theorem Fam.row {t a : List (List (List Int))} (h : Fam t a) {i j : Nat} (hi : i < a.length) (hj : j < (a.getD 0 []).length) : ((a.getD i []).getD j []).length = (a.getD 0 []).length := ((h.2.2.2.2 i hi).2 j hj).1
theorem Fam.inM {t a : List (List (List Int))} (h : Fam t a) {i j k : Nat} (hi : i < a.length) (hj : j < (a.getD 0 []).length) (hk : k < (a.getD 0 []).length) : InM (e3 a i j k) := ((h.2.2.2.2 i hi).2 j hj).2 k hk
end Go.Pl
namespace Go.Pl
open Go.Aw
def rowF (c : Nat) (f : Nat → Int) : List Int := (List.range c).map f
def matF (r c : Nat) (f : Nat → Nat → Int) : List (List Int) := (List.range r).map fun i => rowF c (f i)
theorem rowF_length (c : Nat) (f : Nat → Int) : (rowF c f).length = c := by simp [rowF]
theorem matF_length (r c : Nat) (f : Nat → Nat → Int) : (matF r c f).length = r := by simp [matF]
theorem rowF_get {c : Nat} {f : Nat → Int} {j : Nat} (h : j < c) : (rowF c f).getD j 0 = f j := by simp [rowF, List.getD, h]
theorem matF_get {r c : Nat} {f : Nat → Nat → Int} {i : Nat} (h : i < r) : (matF r c f).getD i [] = rowF c (f i) := by simp [matF, List.getD, h]
theorem rowF_congr {c : Nat} {f g : Nat → Int} (h : ∀ j, j < c → f j = g j) : rowF c f = rowF c g := List.map_congr_left (fun j hj => h j (by simpa using hj))
theorem matF_congr {r c : Nat} {f g : Nat → Nat → Int} (h : ∀ i, i < r → ∀ j, j < c → f i j = g i j) : matF r c f = matF r c g := List.map_congr_left (fun i hi => rowF_congr (h i (by simpa using hi)))
theorem zeros_matF (r c : Nat) : List.replicate r (List.replicate c (0 : Int)) = matF r c (fun _ _ => 0) := by
 simp [matF, rowF, List.map_const']
theorem rowF_set {c : Nat} {f : Nat → Int} {j : Nat} {v : Int} : (rowF c f).set j v = rowF c (fun y => if y = j then v else f y) := by
 apply List.ext_getElem
 ·simp [rowF]
 ·intro n h1 h2
  simp only [rowF, List.getElem_set, List.getElem_map, List.getElem_range]
  by_cases h : j = n
  ·subst h; simp
  ·rw [if_neg h, if_neg (fun e => h e.symm)]
theorem matF_set {r c : Nat} {f : Nat → Nat → Int} {i j : Nat} {v : Int} (h : i < r) : (matF r c f).set i (((matF r c f).getD i []).set j v) = matF r c (fun x y => if x = i ∧ y = j then v else f x y) := by
 rw [matF_get h, rowF_set]
 apply List.ext_getElem
 ·simp [matF]
 ·intro n h1 h2
  simp only [matF, List.getElem_set, List.getElem_map, List.getElem_range]
  by_cases hn : i = n
  ·subst hn; simp
  ·rw [if_neg hn]
   exact rowF_congr fun y _ => by rw [if_neg (fun e => hn e.1.symm)]
theorem turnM_matF (a : List (List Int)) : turnM a = matF (a.getD 0 []).length a.length (fun k i => e2 a i k) := rfl
def dotG (r v : List Int) (y : Nat) : Int := r.getD y 0 * v.getD y 0
theorem MatOk.row {m : Nat} {a : List (List Int)} (h : MatOk m a) {i : Nat} (hi : i < m) : (a.getD i []).length = m := (h.2 i hi).1
theorem MatOk.inM {m : Nat} {a : List (List Int)} (h : MatOk m a) {i j : Nat} (hi : i < m) (hj : j < m) : InM (e2 a i j) := (h.2 i hi).2 j hj
theorem matF_inj {r c : Nat} {f g : Nat → Nat → Int} : matF r c f = matF r c g ↔ ∀ i, i < r → ∀ j, j < c → f i j = g i j := by
 constructor
 ·intro h i hi j hj
  have h1 : ((matF r c f).getD i []).getD j 0 = ((matF r c g).getD i []).getD j 0 := by rw [h]
  rw [matF_get hi, matF_get hi, rowF_get hj, rowF_get hj] at h1
  exact h1
 ·exact matF_congr
end Go.Pl
