/-
  What the functions compute, as plain functions on lists. Of no program.
-/
import Derived.Test.YtomfedhhfcelkaaAwY
set_option linter.unusedSimpArgs false
set_option linter.unusedVariables false
namespace Go.Pl

/-! ### Sizes -/
def szs {α : Type} (f : α → Int → Int) : List α → Int → Int
  | [], l => l
  | x :: xs, l => if f x l < 0 then -1 else szs f xs (f x l)
def sz0 {α : Type} (f : α → Int → Int) (xs : List α) (l : Int) : Int := if l - xs.length < 0 then -1 else szs f xs (l - xs.length)
def sz1 (xs : List Int) (l : Int) : Int := if l - xs.length < 0 then -1 else l - xs.length
def sz2 : List (List Int) → Int → Int := sz0 sz1
def sz3 : List (List (List Int)) → Int → Int := sz0 sz2

def SzOk {α : Type} (f : α → Int → Int) : Prop := ∀ x l, 0 ≤ l → f x l = -1 ∨ (0 ≤ f x l ∧ f x l ≤ l)
theorem sz1_ok : SzOk sz1 := fun x l h => by unfold sz1; split <;> omega
theorem szs_ok {α : Type} {f : α → Int → Int} (h : SzOk f) : ∀ xs l, 0 ≤ l → szs f xs l = -1 ∨ (0 ≤ szs f xs l ∧ szs f xs l ≤ l)
  | [], l, hl => by simp only [szs]; omega
  | x :: xs, l, hl => by
    simp only [szs]
    split
    · exact .inl rfl
    · have := h x l hl
      have := szs_ok h xs (f x l) (by omega)
      omega
theorem sz0_ok {α : Type} {f : α → Int → Int} (h : SzOk f) : SzOk (sz0 f) := fun x l hl => by
  unfold sz0
  split
  · exact .inl rfl
  · have := szs_ok h x (l - x.length) (by omega)
    omega
theorem sz2_ok : SzOk sz2 := sz0_ok sz1_ok
theorem sz3_ok : SzOk sz3 := sz0_ok sz2_ok
theorem szs_step {α : Type} {f : α → Int → Int} {xs : List α} {k : Nat} {d : α} (h : k < xs.length) (l : Int) : szs f (xs.drop k) l = if f (xs.getD k d) l < 0 then -1 else szs f (xs.drop (k + 1)) (f (xs.getD k d) l) := by
  have e : xs.drop k = xs.getD k d :: xs.drop (k + 1) := by
    rw [List.drop_eq_getElem_cons h]
    simp [List.getD, h]
  rw [e]
  rfl
theorem szs_end {α : Type} {f : α → Int → Int} {xs : List α} {k : Nat} (h : ¬ k < xs.length) (l : Int) : szs f (xs.drop k) l = l := by
  rw [List.drop_eq_nil_of_le (by omega)]; rfl

/-! ### A row filled from the front -/
def fill {α : Type} (d : α) (xs : List α) (k : Nat) : List α := xs.take k ++ List.replicate (xs.length - k) d
theorem fill_zero {α : Type} {d : α} {xs : List α} : fill d xs 0 = List.replicate xs.length d := by simp [fill]
theorem fill_all {α : Type} {d : α} {xs : List α} {k : Nat} (h : xs.length ≤ k) : fill d xs k = xs := by
  simp only [fill]
  rw [List.take_of_length_le h, show xs.length - k = 0 by omega]; simp
theorem fill_length {α : Type} {d : α} {xs : List α} {k : Nat} (h : k ≤ xs.length) : (fill d xs k).length = xs.length := by
  simp only [fill, List.length_append, List.length_take, List.length_replicate]; omega
theorem fill_step {α : Type} {d : α} {xs : List α} {k : Nat} (h : k < xs.length) : (fill d xs k).set k (xs.getD k d) = fill d xs (k + 1) := by
  have e : xs.length - k = (xs.length - (k + 1)) + 1 := by omega
  simp only [fill]
  rw [e, List.replicate_succ, List.set_append_right _ _ (by simp; omega)]
  have h2 : k - (xs.take k).length = 0 := by simp; omega
  rw [h2, List.set_cons_zero, List.take_add_one]
  have h3 : xs[k]? = some (xs.getD k d) := by simp [List.getD, h]
  rw [h3]
  simp

/-! ### Marks -/
def up (k : Int) (n : Nat) : List Int := (List.range n).map fun (i : Nat) => k + (i : Int)
theorem up_length (k : Int) (n : Nat) : (up k n).length = n := by simp [up]
theorem up_succ (k : Int) (n : Nat) : up k (n + 1) = up k n ++ [k + n] := by simp [up, List.range_succ]
theorem up_step {k : Int} {i : Nat} {xs : List Int} (h : i < xs.length) : (up k i ++ xs.drop i).set i (k + i) = up k (i + 1) ++ xs.drop (i + 1) := by
  rw [List.set_append_right _ _ (by simp [up]), up_length, Nat.sub_self, List.drop_eq_getElem_cons h, List.set_cons_zero, up_succ]
  simp
theorem up_end {k : Int} {i : Nat} {xs : List Int} (h : ¬ i < xs.length) : up k i ++ xs.drop i = up k i := by
  rw [List.drop_eq_nil_of_le (by omega)]; simp
theorem up_get {k : Int} {n i : Nat} (h : i < n) : (up k n).getD i 0 = k + i := by simp [up, List.getD, h]

section
variable {α : Type}
def tot (n : α → Nat) : List α → Nat
  | [] => 0
  | x :: xs => n x + tot n xs
def marks (f : α → Int → α) (n : α → Nat) : Int → List α → List α
  | _, [] => []
  | k, x :: xs => f x k :: marks f n (k + n x) xs
theorem marks_length {f : α → Int → α} {n : α → Nat} : ∀ (k : Int) (xs : List α), (marks f n k xs).length = xs.length
  | _, [] => rfl
  | k, x :: xs => by simp [marks, marks_length (k + n x) xs]
theorem tot_take_le {n : α → Nat} : ∀ (i : Nat) (xs : List α), tot n (xs.take i) ≤ tot n xs
  | 0, _ => by simp [tot]
  | i + 1, [] => by simp
  | i + 1, x :: xs => by simp only [List.take_succ_cons, tot]; have := tot_take_le (n := n) i xs; omega
theorem tot_step {n : α → Nat} {d : α} : ∀ {i : Nat} {xs : List α}, i < xs.length → tot n (xs.take (i + 1)) = tot n (xs.take i) + n (xs.getD i d)
  | 0, x :: xs, _ => by simp [tot]
  | i + 1, x :: xs, h => by
    have := tot_step (n := n) (d := d) (i := i) (xs := xs) (by simpa using h)
    simp only [List.take_succ_cons, tot, List.getD_cons_succ, this]; omega
  | _, [], h => by simp at h
def mix (f : α → Int → α) (n : α → Nat) (k : Int) (xs : List α) (i : Nat) : List α := (marks f n k xs).take i ++ xs.drop i
theorem mix_length {f : α → Int → α} {n : α → Nat} {k : Int} {xs : List α} {i : Nat} (h : i ≤ xs.length) : (mix f n k xs i).length = xs.length := by
  simp only [mix, List.length_append, List.length_take, List.length_drop, marks_length]; omega
theorem mix_get {f : α → Int → α} {n : α → Nat} {k : Int} {xs : List α} {i : Nat} {d : α} (h : i < xs.length) : (mix f n k xs i).getD i d = xs.getD i d := by
  have e : ((marks f n k xs).take i).length = i := by simp [marks_length]; omega
  simp only [mix, List.getD]
  rw [List.getElem?_append_right (by omega), e]
  simp
theorem marks_get {f : α → Int → α} {n : α → Nat} {d : α} : ∀ {k : Int} {xs : List α} {i : Nat}, i < xs.length → (marks f n k xs)[i]? = some (f (xs.getD i d) (k + tot n (xs.take i)))
  | k, x :: xs, 0, _ => by simp [marks, tot]
  | k, x :: xs, i + 1, h => by
    have := marks_get (f := f) (n := n) (d := d) (k := k + n x) (xs := xs) (i := i) (by simpa using h)
    simp only [marks, List.getElem?_cons_succ, this, List.getD_cons_succ, List.take_succ_cons, tot]
    congr 2; omega
  | _, [], _, h => by simp at h
theorem mix_step {f : α → Int → α} {n : α → Nat} {k : Int} {xs : List α} {i : Nat} {d : α} (h : i < xs.length) : (mix f n k xs i).set i (f (xs.getD i d) (k + tot n (xs.take i))) = mix f n k xs (i + 1) := by
  have e : ((marks f n k xs).take i).length = i := by simp [marks_length]; omega
  simp only [mix]
  rw [List.set_append_right _ _ (by omega), e, Nat.sub_self, List.drop_eq_getElem_cons h, List.set_cons_zero, List.take_add_one, marks_get (d := d) h]
  simp
theorem mix_zero {f : α → Int → α} {n : α → Nat} {k : Int} {xs : List α} : mix f n k xs 0 = xs := by simp [mix]
theorem mix_end {f : α → Int → α} {n : α → Nat} {k : Int} {xs : List α} : mix f n k xs xs.length = marks f n k xs := by
  simp only [mix]; rw [List.take_of_length_le (by rw [marks_length]; exact Nat.le_refl _)]; simp
end
def mrk1 (xs : List Int) (k : Int) : List Int := up k xs.length
def mrk2 (xs : List (List Int)) (k : Int) : List (List Int) := marks mrk1 List.length k xs
def mrk3 (xs : List (List (List Int))) (k : Int) : List (List (List Int)) := marks mrk2 (tot List.length) k xs
def tot2 : List (List Int) → Nat := tot List.length
def tot3 : List (List (List Int)) → Nat := tot (tot List.length)

end Go.Pl
