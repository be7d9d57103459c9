import Derived.Test.YtlngnhbochmcoaaQd3
set_option linter.unusedSimpArgs false
set_option linter.unusedVariables false
namespace Go.Pl
open Go.Aw
def Gf.tab (n : Nat) (F : Gf) : Cu := UR_ n F
structure GrpP (n : Nat) (op : Nat → Nat → Nat) (inv : Nat → Nat) : Prop where
 pos : 1 ≤ n
 lt : ∀ x, x < n → ∀ y, y < n → op x y < n
 ilt : ∀ x, x < n → inv x < n
 zl : ∀ x, x < n → op 0 x = x
 zr : ∀ x, x < n → op x 0 = x
 il : ∀ x, x < n → op (inv x) x = 0
 ir : ∀ x, x < n → op x (inv x) = 0
 as : ∀ x, x < n → ∀ y, y < n → ∀ z, z < n → op (op x y) z = op x (op y z)
section
variable {n : Nat} {op : Nat → Nat → Nat} {inv : Nat → Nat}
theorem GrpP.left (h : GrpP n op inv) {x y z : Nat} (hx : x < n) (hy : y < n) (hz : z < n) : z = op x y ↔ y = op (inv x) z := by
 constructor
 ·rintro rfl
  rw [← h.as _ (h.ilt x hx) _ hx _ hy, h.il x hx, h.zl y hy]
 ·rintro rfl
  rw [← h.as _ hx _ (h.ilt x hx) _ hz, h.ir x hx, h.zl z hz]
theorem GrpP.right (h : GrpP n op inv) {x y z : Nat} (hx : x < n) (hy : y < n) (hz : z < n) : z = op x y ↔ x = op z (inv y) := by
 constructor
 ·rintro rfl
  rw [h.as _ hx _ hy _ (h.ilt y hy), h.ir y hy, h.zr x hx]
 ·rintro rfl
  rw [h.as _ hz _ (h.ilt y hy) _ hy, h.il y hy, h.zr z hz]
theorem GrpP.zero (h : GrpP n op inv) {x y : Nat} (hx : x < n) (hy : y < n) : 0 = op x y ↔ y = inv x := by
 rw [h.left hx hy h.pos, h.zr _ (h.ilt x hx)]
theorem aH5 {p q : Prop} [Decidable p] [Decidable q] {a b : Int} (h : p ↔ q) : (if p then a else b) = if q then a else b := by
 by_cases e : p
 ·rw [if_pos e, if_pos (h.1 e)]
 ·rw [if_neg e, if_neg (fun e2 => e (h.2 e2))]
theorem av4 {i k : Nat} : dl i k = if i = k then 1 else 0 := by unfold dl; exact aH5 Int.natCast_inj
end
end Go.Pl
namespace Go.Pl
open Go.Aw
def cg3 (l : List Int) : Prop := ∀ m ∈ l, 1 ≤ m
theorem PosO.all {o : List Int} (h : PosO o) : cg3 o.reverse := fun m hm => by
 rw [List.mem_reverse] at hm
 obtain ⟨i, hi, rfl⟩ := List.getElem_of_mem hm
 have := h.2 i hi
 rwa [List.getD_eq_getElem?_getD, List.getElem?_eq_getElem hi] at this
end Go.Pl
namespace Go.Pl
open Go.Aw
abbrev n3 (T : List (List (List Nat))) (i j : Nat) : List Nat := (T.getD i []).getD j []
def cg4 (a b : Nat) : Nat := (a - b) + (b - a)
end Go.Pl
