import Derived.Test.YtmjcbgpbhlheoaaDoorPl5
import Derived.Test.YtmjcbgpbhlheoaaDoorLib6
import Derived.Test.YtmjcbgpbhlheoaaDoorDz2
import Derived.Test.YtmjcbgpbhlheoaaDoorWz1
import Derived.Test.YtmjcbgpbhlheoaaDoorWx4
import Derived.Test.YtmjcbgpbhlheoaaDoorPl3
import Derived.Test.YtmjcbgpbhlheoaaDoorDz1
import Derived.Test.YtmjcbgpbhlheoaaDoorKp2
set_option linter.unusedSimpArgs false
set_option linter.unusedVariables false
namespace Go.Proofs.YtmjcbgpbhlheoaaDoor
open Go Go.Aw Go.Pl
end Go.Proofs.YtmjcbgpbhlheoaaDoor
namespace Go.Proofs.YtmjcbgpbhlheoaaDoor
open Go Go.Aw Go.Pl
end Go.Proofs.YtmjcbgpbhlheoaaDoor
namespace Go.Proofs.YtmjcbgpbhlheoaaDoor
open Go Go.Aw Go.Pl
end Go.Proofs.YtmjcbgpbhlheoaaDoor
namespace Go.Proofs.YtmjcbgpbhlheoaaDoor
open Go Go.Aw Go.Pl
attribute [local go_sem] pl_fin pl_stop pl_one pl_alt PK_ap pickO List.getElem?_toArray List.getElem?_cons_zero List.getElem?_cons_succ
theorem take_getD {α : Type} {xs : List α} {d : α} {k : Nat} (h : k < xs.length) : xs.take (k + 1) = xs.take k ++ [xs.getD k d] := by
 rw [← List.take_append_getElem h, List.getD_eq_getElem?_getD, List.getElem?_eq_getElem h]
 rfl
end Go.Proofs.YtmjcbgpbhlheoaaDoor
