import Derived.Test.YtlngnhbochmcoaaPl2
set_option linter.unusedSimpArgs false
set_option linter.unusedVariables false
namespace Go.Pl
open Go.Aw
theorem rowF_succ {n : Nat} {f : Nat → Int} : xU_ (n + 1) f = xU_ n f ++ [f n] := by simp [xU_, List.range_succ]
theorem wW_ {r : List Int} {n : Nat} (h : r.length = n) : xU_ n (fun k => r.getD k 0) = r := by
 apply List.ext_getElem
 ·rw [xn_, h]
 ·intro i h1 h2
  rw [getD_at (d := 0) h1, getD_at (d := 0) h2, xE_ (by omega)]
def LagP (s : List (List Int)) (t v : List Int) : Prop := v.length = t.length ∧ v.getD 0 0 = 1 ∧ (∀ i, i < t.length → (0 ≤ v.getD i 0 ∧ v.getD i 0 ≤ 1000) ∧ (v.getD i 0 ≠ 0 → t.getD i 0 = 1)) ∧ (∀ i, i < t.length → Ti_ (s.getD i []) v t.length = Ti_ (s.getD 0 []) v t.length * v.getD i 0 % 55441) ∧ Ti_ (s.getD 0 []) v t.length * Ti_ (s.getD 0 []) v t.length % 55441 = y7_ s t.length
def hI (s : List (List Int)) (t c : List Int) (a : Nat) (k : Int) (j l : Nat) : Int := bg7 s t.length c j l a * (e2 s 0 j * e2 s 0 l % 55441 * rs (t.getD j 0 * inv (t.getD l 0) % 55441) k % 55441) % 55441
theorem LagP.le {s : List (List Int)} {t v : List Int} (h : LagP s t v) : ∀ i, i < t.length → 0 ≤ v.getD i 0 ∧ v.getD i 0 ≤ 1000 := fun i hi => (h.2.2.1 i hi).1
end Go.Pl
namespace Go.Pl
open Go.Aw
theorem SX_ {α : Type} {d : α} {xs ys : List α} (hl : xs.length = ys.length) (h : ∀ i, i < xs.length → xs.getD i d = ys.getD i d) : xs = ys := by
 apply List.ext_getElem hl
 intro i h1 h2
 have := h i h1
 simpa [List.getD, List.getElem?_eq_getElem h1, List.getElem?_eq_getElem h2] using this
def U1_ (t : List (List (List Int))) : Prop := ∀ i, i < t.length → ∀ j, j < t.length → (t.getD i []).getD j [] = (t.getD j []).getD i []
def SY_ (t : List (List (List Int))) (i j : Nat) : List (List Int) := (List.range j).map fun j => (t.getD j []).getD i []
def U2_ (t : List (List (List Int))) (i : Nat) : List (List (List Int)) := (List.range i).map fun i => SY_ t i t.length
theorem Xt_ {t : List (List (List Int))} {i j : Nat} : (SY_ t i j).length = j := by simp [SY_]
theorem oppL_length {t : List (List (List Int))} {i : Nat} : (U2_ t i).length = i := by simp [U2_]
theorem U3_ {t : List (List (List Int))} {i j : Nat} : SY_ t i (j + 1) = SY_ t i j ++ [(t.getD j []).getD i []] := by simp [SY_, List.range_succ]
theorem U4_ {t : List (List (List Int))} {i : Nat} : U2_ t (i + 1) = U2_ t i ++ [SY_ t i t.length] := by simp [U2_, List.range_succ]
theorem VN_ {t : List (List (List Int))} {i n : Nat} (h : i < n) : (U2_ t n).getD i [] = SY_ t i t.length := by simp [U2_, List.getD, h]
theorem SZ_ {t : List (List (List Int))} {i j n : Nat} (h : j < n) : (SY_ t i n).getD j [] = (t.getD j []).getD i [] := by simp [SY_, List.getD, h]
theorem S0_ {t : List (List (List Int))} (hc : Cube t) : U1_ t ↔ t = U2_ t t.length := by
 constructor
 ·intro h
  refine SX_ (d := []) oppL_length.symm (fun i hi => ?_)
  have hm := hc.2.2 i hi
  refine SX_ (d := []) (by rw [VN_ hi, Xt_]; exact hm.1) (fun j hj => ?_)
  rw [hm.1] at hj
  rw [VN_ hi, SZ_ hj]
  exact h i hi j hj
 ·intro h i hi j hj
  have e : (t.getD i []).getD j [] = ((U2_ t t.length).getD i []).getD j [] := by rw [← h]
  rw [e, VN_ hi, SZ_ hj]
def ListP (t : List (List (List Int))) (x : List Int) : Prop := x.length = t.length ∧ ao4 x = true
def cf4 (t : List (List (List Int))) (x : List Int) : Prop := ∀ i, i < t.length → ∀ j, j < t.length → Ti_ ((t.getD i []).getD j []) x t.length = x.getD i 0 * x.getD j 0 % 55441
def wX_ (t : List (List (List Int))) (x : List Int) : Prop := cf4 t x ∧ x.getD 0 0 = 1
theorem ListP.inP {t : List (List (List Int))} {x : List Int} (h : ListP t x) : ∀ i, i < t.length → InP (x.getD i 0) := fun i hi => numsB_iff.1 h.2 i (by rw [h.1]; exact hi)
theorem Cube.rowP {t : List (List (List Int))} (h : Cube t) {i j : Nat} (hi : i < t.length) (hj : j < t.length) : ((t.getD i []).getD j []).length = t.length ∧ ∀ k, k < t.length → InP (((t.getD i []).getD j []).getD k 0) := by
 have hm := h.2.2 i hi
 refine ⟨hm.row hj, fun k hk => ?_⟩
 have := (hm.2 j hj).2 k hk
 unfold InM at this
 unfold InP
 omega
noncomputable def Xu_ (t : List (List (List Int))) : Int := if zM_ t = true then (if bd (U1_ t) = true then 0 else 5) else 1
end Go.Pl
