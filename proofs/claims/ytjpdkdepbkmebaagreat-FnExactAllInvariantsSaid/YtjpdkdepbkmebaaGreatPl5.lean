import Derived.Test.YtjpdkdepbkmebaaGreatPl2
set_option linter.unusedSimpArgs false
set_option linter.unusedVariables false
namespace Go.Pl
open Go.Aw
def LagP (s : List (List Int)) (t v : List Int) : Prop := v.length = t.length ∧ v.getD 0 0 = 1 ∧ (∀ i, i < t.length → (0 ≤ v.getD i 0 ∧ v.getD i 0 ≤ 1000) ∧ (v.getD i 0 ≠ 0 → t.getD i 0 = 1)) ∧ (∀ i, i < t.length → dotP (s.getD i []) v t.length = dotP (s.getD 0 []) v t.length * v.getD i 0 % 55441) ∧ dotP (s.getD 0 []) v t.length * dotP (s.getD 0 []) v t.length % 55441 = wholeD s t.length
theorem matOk_row {n : Nat} {m : List (List Int)} (h : MatOk n m) {i : Nat} (hi : i < n) : (m.getD i []).length = n := (h.2 i hi).1
theorem matOk_in {n : Nat} {m : List (List Int)} (h : MatOk n m) {i j : Nat} (hi : i < n) (hj : j < n) : 0 ≤ e2 m i j ∧ e2 m i j ≤ 1000 := (h.2 i hi).2 j hj
theorem matOk_MatP {n : Nat} {m : List (List Int)} (h : MatOk n m) : MatP n m := ⟨h.1, fun i hi => ⟨matOk_row h hi, fun j hj => by
 have := matOk_in h hi hj
 unfold InP
 omega⟩⟩
def InvP (s : List (List Int)) (t : List Int) (m : List (List Int)) : Prop := MatOk t.length m ∧ e2 m 0 0 = 1 ∧ (∀ i, i < t.length → ∀ j, j < t.length → e2 m i j ≠ 0 → t.getD i 0 = t.getD j 0) ∧ mulM s m t.length = mulM m s t.length
def dS (f : Nat → Nat → Int) (n j l : Nat) : Int := sumTo (fun j => sumTo (f j) n) j + sumTo (f j) l
def hI (s : List (List Int)) (t c : List Int) (a : Nat) (k : Int) (j l : Nat) : Int := numV s t.length c j l a * (e2 s 0 j * e2 s 0 l % 55441 * rs (t.getD j 0 * inv (t.getD l 0) % 55441) k % 55441) % 55441
theorem LagP.le {s : List (List Int)} {t v : List Int} (h : LagP s t v) : ∀ i, i < t.length → 0 ≤ v.getD i 0 ∧ v.getD i 0 ≤ 1000 := fun i hi => (h.2.2.1 i hi).1
end Go.Pl
namespace Go.Pl
open Go.Aw
theorem ext_getD {α : Type} {d : α} {xs ys : List α} (hl : xs.length = ys.length) (h : ∀ i, i < xs.length → xs.getD i d = ys.getD i d) : xs = ys := by
 apply List.ext_getElem hl
 intro i h1 h2
 have := h i h1
 simpa [List.getD, List.getElem?_eq_getElem h1, List.getElem?_eq_getElem h2] using this
def ListP (t : List (List (List Int))) (x : List Int) : Prop := x.length = t.length ∧ numsB x = true
theorem ListP.inP {t : List (List (List Int))} {x : List Int} (h : ListP t x) : ∀ i, i < t.length → InP (x.getD i 0) := fun i hi => numsB_iff.1 h.2 i (by rw [h.1]; exact hi)
end Go.Pl
