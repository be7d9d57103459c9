/-
  What the row reads of an argument, as lists: for this program's types.
-/
import Derived.Test.YtgaclhdmhipagaaDoorLib3
import Derived.Test.YtgaclhdmhipagaaDoorTy
import Derived.KernelRfl
set_option linter.unusedSimpArgs false
set_option linter.unusedVariables false
namespace Go.Proofs.YtgaclhdmhipagaaDoor
open Go Go.Aw
section
variable {H : Type} {enc : TypeId × Value → H} {W : World} {base : Nat} {v : Value} {d : DataW H} {p : List MemPlace}
set_option maxRecDepth 100000 in
theorem rdRing (hv : Value.okWide Tryd.prog W .any base 24 v) (h : DataW.Trod enc Tryd.prog W 0 (fun _ => true) true 24 v d p) : ∃ t, Rd W (lower W) (.agg [.l3 t]) v := by
  obtain ⟨u, n, y, rfl, hy⟩ := rdStruct1 Tryd.underlying24 rfl ck22 ck24 hv h
  obtain ⟨xs, hx⟩ := rd3 Tryd.underlying22 ck38 Tryd.underlying38 ck40 Tryd.underlying40 Tryd.underlying2 ck2 n u y hy
  exact ⟨xs, rdAgg3 hx⟩
set_option maxRecDepth 100000 in
theorem rdInt (hv : Value.okWide Tryd.prog W .any base 2 v) (h : DataW.Trod enc Tryd.prog W 0 (fun _ => true) true 2 v d p) : ∃ x, Rd W (lower W) (.int x) v := rdInt' Tryd.underlying2 hv h
set_option maxRecDepth 100000 in
theorem rdInts (hv : Value.okWide Tryd.prog W .any base 40 v) (h : DataW.Trod enc Tryd.prog W 0 (fun _ => true) true 40 v d p) : ∃ x, Rd W (lower W) (.l1 x) v := rdInts' Tryd.underlying40 Tryd.underlying2 ck2 hv h
end
end Go.Proofs.YtgaclhdmhipagaaDoor
