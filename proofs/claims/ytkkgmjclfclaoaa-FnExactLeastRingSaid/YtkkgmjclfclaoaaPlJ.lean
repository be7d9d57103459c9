import Derived.Test.YtkkgmjclfclaoaaPlI
set_option linter.unusedSimpArgs false
set_option linter.unusedVariables false
namespace Go.Pl
open Go.Aw
def Blk (m : List (List Int)) : Prop := (1 ≤ m.length ∧ m.length ≤ 16) ∧ ∀ i, i < m.length → 1 ≤ (m.getD i []).length ∧ (m.getD i []).length ≤ 16 ∧ (m.getD i []).length = (m.getD 0 []).length
def NumsM (m : List (List Int)) : Bool := !(m.any fun r => !(numsB r))
def apL (b : List (List Int)) (v : List Int) (n : Nat) : List Int := rowF n fun j => sumTo (fun k => v.getD k 0 * e2 b k j) n % 55441
def diF (v : List Int) (n : Nat) : List (List Int) := matF n n fun i j => if i = j then v.getD i 0 else 0
def diS (v : List Int) (n k : Nat) : List (List Int) := matF n n fun i j => if i = j ∧ i < k then v.getD i 0 else 0
def scF (m : List (List Int)) (g : Int) (n : Nat) : List (List Int) := matF n n fun i j => e2 m i j * g % 55441
def ivF (xs : List Int) : List Int := xs.map fun x => 1 * inv x % 55441
section
variable {s : List (List Int)} {t : List Int}
end
end Go.Pl
