import Derived.Test.YtakhnoenhmpfpaaGreatPl4
import Derived.Test.YtakhnoenhmpfpaaGreatLib7
import Derived.Test.YtakhnoenhmpfpaaGreatDr
import Derived.Test.YtakhnoenhmpfpaaGreatDh
import Derived.Test.YtakhnoenhmpfpaaGreatDj
set_option linter.unusedSimpArgs false
set_option linter.unusedVariables false
namespace Go.Proofs.YtakhnoenhmpfpaaGreat
open Go Go.Aw Go.Pl
def agB2 (s s' : List (List Int)) (p : List Int) (y k : Nat) : Bool := (List.range k).all fun j => decide ((s.getD p.length []).getD j 0 = (s'.getD y []).getD ((p ++ [(y : Int)]).getD j 0).toNat 0)
noncomputable def fstI (n : Nat) (s : List (List Int)) (t : List Int) (s' : List (List Int)) (t' : List Int) (d : Nat) (p : List Int) : Option (List Int) := (extI n s t s' t' d p).head?
end Go.Proofs.YtakhnoenhmpfpaaGreat
