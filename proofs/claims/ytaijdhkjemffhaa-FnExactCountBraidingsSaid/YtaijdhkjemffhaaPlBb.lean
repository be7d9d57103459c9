import Derived.Test.YtaijdhkjemffhaaPlBa
set_option linter.unusedSimpArgs false
set_option linter.unusedVariables false
namespace Go.Pl
open Go.Aw
def lx3 (f g : Nat → Nat → Nat → Int) (i j k x y z : Nat) : Int := if x < i ∨ (x = i ∧ (y < j ∨ (y = j ∧ z < k))) then f x y z else g x y z
def wrC (n : Nat) (f g : Nat → Nat → Nat → Int) (i j k : Nat) : List (List (List Int)) := cubF n (lx3 f g i j k)
def lx2 (f g : Nat → Nat → Int) (i j x y : Nat) : Int := if x < i ∨ (x = i ∧ y < j) then f x y else g x y
def wrM (n : Nat) (f g : Nat → Nat → Int) (i j : Nat) : List (List Int) := matF n n (lx2 f g i j)
theorem rowF_own {r : List Int} {n : Nat} (h : r.length = n) : rowF n (fun k => r.getD k 0) = r := by
  subst h
  apply List.ext_getElem
  · simp [rowF]
  · intro i h1 h2
    simp [rowF, List.getD, h2]
def cubP (n : Nat) (f : Nat → Nat → Nat → Int) (i : Nat) : List (List (List Int)) := (List.range i).map fun u => matF n n (f u)
theorem matP_succ {r n : Nat} {f : Nat → Nat → Int} : matF (r + 1) n f = matF r n f ++ [rowF n (f r)] := by simp [matF, List.range_succ]
theorem rowP_succ {k : Nat} {f : Nat → Int} : rowF (k + 1) f = rowF k f ++ [f k] := by simp [rowF, List.range_succ]
end Go.Pl
