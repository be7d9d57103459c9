import Derived.Test.YtkkgmjclfclaoaaPlH
set_option linter.unusedSimpArgs false
set_option linter.unusedVariables false
namespace Go.Pl
open Go.Aw
def lexF (g : Nat → Nat → Nat → Int) (i j k x y z : Nat) : Int := if x < i ∨ (x = i ∧ (y < j ∨ (y = j ∧ z < k))) then g x y z else 0
def cubL (n : Nat) (g : Nat → Nat → Nat → Int) (i j k : Nat) : List (List (List Int)) := cubF n (lexF g i j k)
def numV (s : List (List Int)) (n : Nat) (c : List Int) (i j k : Nat) : Int := sumTo (nG s n c i j k) n * inv (wholeD s n) % 55441
def ivL (s : List (List Int)) (n : Nat) (l : Nat) : Int := inv (e2 s 0 l) * inv (wholeD s n) % 55441
def boF (s : List (List Int)) (n i j l : Nat) : Int := e2 s i l * e2 s j l % 55441 * ivL s n l % 55441
def teF (s : List (List Int)) (c : List Int) (i j k l : Nat) : Int := e2 s i l * e2 s j l % 55441 * e2 s (c.getD k 0).toNat l % 55441 * (1 * inv (e2 s 0 l) % 55441)
section
variable {s : List (List Int)} {t : List Int}
end
end Go.Pl
