import Derived.Test.YtmjcbgpbhlheoaaDoorRa
import Derived.Test.YtmjcbgpbhlheoaaDoorEx1
import Derived.Test.YtmjcbgpbhlheoaaDoorJz4
import Derived.Test.YtmjcbgpbhlheoaaDoorWz1
import Derived.Test.YtmjcbgpbhlheoaaDoorJz3
import Derived.Test.YtmjcbgpbhlheoaaDoorQd3
set_option linter.unusedSimpArgs false
set_option linter.unusedVariables false
namespace Go.Proofs.YtmjcbgpbhlheoaaDoor
open Go Go.Aw Go.Pl
end Go.Proofs.YtmjcbgpbhlheoaaDoor
namespace Go.Proofs.YtmjcbgpbhlheoaaDoor
open Go Go.Aw Go.Pl
theorem dn_small {t : Cu} (h : RingP t) (hD : DimP t (dnL t)) : ∀ k, k < t.length → 1 ≤ (dnL t).getD k 0 ∧ (dnL t).getD k 0 ≤ 16000 := fun k hk => by
 obtain ⟨D, m, e, ok, hm, h0⟩ := hD.toF.nat h
 have h1 : (dnL t).getD k 0 = ((D k : Nat) : Int) := e k hk
 have h2 := ok.le k hk
 have h3 := ok.pos k hk
 rw [h1]
 omega
end Go.Proofs.YtmjcbgpbhlheoaaDoor
namespace Go.Proofs.YtmjcbgpbhlheoaaDoor
open Go Go.Aw Go.Pl
end Go.Proofs.YtmjcbgpbhlheoaaDoor
