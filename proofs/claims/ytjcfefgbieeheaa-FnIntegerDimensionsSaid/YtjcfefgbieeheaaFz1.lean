import Derived.Test.YtjcfefgbieeheaaPl5
import Derived.Test.YtjcfefgbieeheaaLib6
import Derived.Test.YtjcfefgbieeheaaDz2
import Derived.Test.YtjcfefgbieeheaaWz1
import Derived.Test.YtjcfefgbieeheaaWx4
import Derived.Test.YtjcfefgbieeheaaPl3
import Derived.Test.YtjcfefgbieeheaaDz1
import Derived.Test.YtjcfefgbieeheaaKp2
set_option linter.unusedSimpArgs false
set_option linter.unusedVariables false
namespace Go.Proofs.Ytjcfefgbieeheaa
open Go Go.Aw Go.Pl
end Go.Proofs.Ytjcfefgbieeheaa
namespace Go.Proofs.Ytjcfefgbieeheaa
open Go Go.Aw Go.Pl
end Go.Proofs.Ytjcfefgbieeheaa
namespace Go.Proofs.Ytjcfefgbieeheaa
open Go Go.Aw Go.Pl
end Go.Proofs.Ytjcfefgbieeheaa
namespace Go.Proofs.Ytjcfefgbieeheaa
open Go Go.Aw Go.Pl
attribute [local go_sem] pl_fin pl_stop pl_one pl_alt PK_ap pickO List.getElem?_toArray List.getElem?_cons_zero List.getElem?_cons_succ
theorem take_getD {α : Type} {xs : List α} {d : α} {k : Nat} (h : k < xs.length) : xs.take (k + 1) = xs.take k ++ [xs.getD k d] := by
 rw [← List.take_append_getElem h, List.getD_eq_getElem?_getD, List.getElem?_eq_getElem h]
 rfl
end Go.Proofs.Ytjcfefgbieeheaa
