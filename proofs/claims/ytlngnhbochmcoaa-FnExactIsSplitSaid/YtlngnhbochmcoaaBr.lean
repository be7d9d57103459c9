import Derived.Test.YtlngnhbochmcoaaTy
import Derived.KernelRfl
set_option linter.unusedSimpArgs false
set_option linter.unusedVariables false
namespace Go.Proofs.Ytlngnhbochmcoaa
open Go Go.Aw
section
variable {H : Type} {enc : TypeId × Value → H} {W : World} {base : Nat} {v : Value} {d : DataW H} {p : List MemPlace}
set_option maxRecDepth 100000 in
theorem aV4 (hv : Value.okWide Try.prog W .any base 24 v) (h : DataW.Trod enc Try.prog W 0 (fun _ => true) true 24 v d p) : ∃ t, Rd W (lower W) (.agg [.l3 t]) v := by
 obtain ⟨u, n, y, rfl, hy⟩ := K1_ Try.underlying24 rfl bi2 bi3 hv h
 obtain ⟨xs, hx⟩ := rd3 Try.underlying22 bi4 Try.underlying34 bi5 Try.underlying42 Try.underlying2 ck2 n u y hy
 exact ⟨xs, aS5 hx⟩
end
end Go.Proofs.Ytlngnhbochmcoaa
