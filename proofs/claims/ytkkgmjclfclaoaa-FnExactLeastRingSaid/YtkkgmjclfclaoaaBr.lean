import Derived.Test.YtkkgmjclfclaoaaLib3
import Derived.Test.YtkkgmjclfclaoaaTy
import Derived.KernelRfl
set_option linter.unusedSimpArgs false
set_option linter.unusedVariables false
namespace Go.Proofs.Ytkkgmjclfclaoaa
open Go Go.Aw
section
variable {H : Type} {enc : TypeId × Value → H} {W : World} {base : Nat} {v : Value} {d : DataW H} {p : List MemPlace}
set_option maxRecDepth 100000 in
theorem rdRing (hv : Value.okWide Try.prog W .any base 24 v) (h : DataW.Trod enc Try.prog W 0 (fun _ => true) true 24 v d p) : ∃ t, Rd W (lower W) (.agg [.l3 t]) v := by
  obtain ⟨u, n, y, rfl, hy⟩ := rdStruct1 Try.underlying24 rfl ck22 ck24 hv h
  obtain ⟨xs, hx⟩ := rd3 Try.underlying22 ck61 Try.underlying61 ck25 Try.underlying25 Try.underlying2 ck2 n u y hy
  exact ⟨xs, rdAgg3 hx⟩
end
end Go.Proofs.Ytkkgmjclfclaoaa
