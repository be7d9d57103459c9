import Derived.Test.YtakhnoenhmpfpaaPl4
import Derived.Test.YtakhnoenhmpfpaaLib7
import Derived.Test.YtakhnoenhmpfpaaDr
import Derived.Test.YtakhnoenhmpfpaaDh
import Derived.Test.YtakhnoenhmpfpaaDj
set_option linter.unusedSimpArgs false
set_option linter.unusedVariables false
namespace Go.Proofs.Ytakhnoenhmpfpaa
open Go Go.Aw Go.Pl
def agB (s s' : List (List Int)) (p : List Int) (y k : Nat) : Bool := (List.range k).all fun j => decide ((s.getD p.length []).getD j 0 = (s'.getD y []).getD ((p ++ [(y : Int)]).getD j 0).toNat 0)
end Go.Proofs.Ytakhnoenhmpfpaa
