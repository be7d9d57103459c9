import Derived.Test.YtjcfefgbieeheaaQd2
import Derived.Test.YtjcfefgbieeheaaMn
import Derived.Test.YtjcfefgbieeheaaMz3
import Derived.Test.YtjcfefgbieeheaaMz2
import Derived.Test.YtjcfefgbieeheaaMo
import Derived.Test.YtjcfefgbieeheaaJz3
import Derived.Test.YtjcfefgbieeheaaBb
import Derived.Test.YtjcfefgbieeheaaWx1
set_option linter.unusedSimpArgs false
set_option linter.unusedVariables false
namespace Go.Proofs.Ytjcfefgbieeheaa
open Go Go.Aw Go.Pl
theorem freshLq {P : Program} {f : FuncId} {ds : List AV} {u : Option (List Int)} {c : Int} (h : FreshCall P f ds (.tup [optA u, .int c])) : FreshCall P f ds (.tup [.l1 (u.getD []), .int c]) := by
 cases u with
 | none => exact fresh_nil h
 | some u => exact h
end Go.Proofs.Ytjcfefgbieeheaa
