/-
  eachOrder: all orders of some points are visited.
-/
import Derived.Test.YtbddekioaigbhaaPl3
import Derived.Test.YtbddekioaigbhaaLib6
import Derived.Test.YtbddekioaigbhaaDh
set_option linter.unusedSimpArgs false
set_option linter.unusedVariables false
namespace Go.Proofs.Ytbddekioaigbhaa
open Go Go.Aw Go.Pl

def bxB (s : Option (List (List (List Int)))) : AV := match s with
  | none => .nil
  | some _ => .ref 8 []
def tlB (s : Option (List (List (List Int)))) : List (Nat × Tree) := match s with
  | none => []
  | some M => [(8, .t3 M)]
/-- What the visitor owns. -/
def TV (a : List (List (List Int))) (p : List Int) (s : Option (List (List (List Int)))) : List (Nat × Tree) := [(1, .bx [.l3 a]), (3, .bx [bxB s]), (5, .t1 p)] ++ tlB s
end Go.Proofs.Ytbddekioaigbhaa
