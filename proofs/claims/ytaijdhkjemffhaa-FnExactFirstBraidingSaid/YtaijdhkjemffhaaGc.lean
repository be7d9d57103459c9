import Derived.Test.YtaijdhkjemffhaaGa
import Derived.Test.YtaijdhkjemffhaaDh
set_option linter.unusedSimpArgs false
set_option linter.unusedVariables false
namespace Go.Proofs.Ytaijdhkjemffhaa
open Go Go.Aw Go.Pl
def TW (s : List (List Int)) (t : List Int) (pl : List Int) (O : List (List Int)) : List (Nat × Tree) := [(0, .bx [.l2 s, .l1 t]), (1, .t1 pl), (2, .t2 O), (3, .bx [.ref 1 []]), (4, .bx [.ref 2 []])]
end Go.Proofs.Ytaijdhkjemffhaa
