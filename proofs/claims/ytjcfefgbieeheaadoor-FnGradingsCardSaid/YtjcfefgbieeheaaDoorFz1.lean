import Derived.Test.YtjcfefgbieeheaaDoorPl5
import Derived.Test.YtjcfefgbieeheaaDoorLib6
import Derived.Test.YtjcfefgbieeheaaDoorDz2
import Derived.Test.YtjcfefgbieeheaaDoorWz1
import Derived.Test.YtjcfefgbieeheaaDoorWx4
import Derived.Test.YtjcfefgbieeheaaDoorPl3
import Derived.Test.YtjcfefgbieeheaaDoorDz1
import Derived.Test.YtjcfefgbieeheaaDoorKp2
set_option linter.unusedSimpArgs false
set_option linter.unusedVariables false
namespace Go.Proofs.YtjcfefgbieeheaaDoor
open Go Go.Aw Go.Pl
end Go.Proofs.YtjcfefgbieeheaaDoor
namespace Go.Proofs.YtjcfefgbieeheaaDoor
open Go Go.Aw Go.Pl
end Go.Proofs.YtjcfefgbieeheaaDoor
namespace Go.Proofs.YtjcfefgbieeheaaDoor
open Go Go.Aw Go.Pl
end Go.Proofs.YtjcfefgbieeheaaDoor
namespace Go.Proofs.YtjcfefgbieeheaaDoor
open Go Go.Aw Go.Pl
attribute [local go_sem] pl_fin pl_stop pl_one pl_alt PK_ap pickO List.getElem?_toArray List.getElem?_cons_zero List.getElem?_cons_succ
theorem take_getD {α : Type} {xs : List α} {d : α} {k : Nat} (h : k < xs.length) : xs.take (k + 1) = xs.take k ++ [xs.getD k d] := by
 rw [← List.take_append_getElem h, List.getD_eq_getElem?_getD, List.getElem?_eq_getElem h]
 rfl
end Go.Proofs.YtjcfefgbieeheaaDoor
