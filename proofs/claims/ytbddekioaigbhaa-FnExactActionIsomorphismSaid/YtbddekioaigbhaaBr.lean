/-
  What the row reads of an argument, as lists: for this program's types.
-/
import Derived.Test.YtbddekioaigbhaaLib3
import Derived.Test.YtbddekioaigbhaaTy
import Derived.KernelRfl
set_option linter.unusedSimpArgs false
set_option linter.unusedVariables false
namespace Go.Proofs.Ytbddekioaigbhaa
open Go Go.Aw
section
variable {H : Type} {enc : TypeId × Value → H} {W : World} {base : Nat} {v : Value} {d : DataW H} {p : List MemPlace}
set_option maxRecDepth 100000 in
theorem rdRing (hv : Value.okWide Try.prog W .any base 24 v) (h : DataW.Trod enc Try.prog W 0 (fun _ => true) true 24 v d p) : ∃ t, Rd W (lower W) (.agg [.l3 t]) v := by
  obtain ⟨u, n, y, rfl, hy⟩ := rdStruct1 Try.underlying24 rfl ck22 ck24 hv h
  obtain ⟨xs, hx⟩ := rd3 Try.underlying22 ck54 Try.underlying54 ck29 Try.underlying29 Try.underlying2 ck2 n u y hy
  exact ⟨xs, rdAgg3 hx⟩
set_option maxRecDepth 100000 in
theorem rdAction (hv : Value.okWide Try.prog W .any base 26 v) (h : DataW.Trod enc Try.prog W 0 (fun _ => true) true 26 v d p) : ∃ t, Rd W (lower W) (.agg [.l3 t]) v := by
  obtain ⟨u, n, y, rfl, hy⟩ := rdStruct1 Try.underlying26 rfl ck22 ck26 hv h
  obtain ⟨xs, hx⟩ := rd3 Try.underlying22 ck54 Try.underlying54 ck29 Try.underlying29 Try.underlying2 ck2 n u y hy
  exact ⟨xs, rdAgg3 hx⟩
set_option maxRecDepth 100000 in
theorem rdInt (hv : Value.okWide Try.prog W .any base 2 v) (h : DataW.Trod enc Try.prog W 0 (fun _ => true) true 2 v d p) : ∃ x, Rd W (lower W) (.int x) v := rdInt' Try.underlying2 hv h
set_option maxRecDepth 100000 in
theorem rdInts (hv : Value.okWide Try.prog W .any base 29 v) (h : DataW.Trod enc Try.prog W 0 (fun _ => true) true 29 v d p) : ∃ x, Rd W (lower W) (.l1 x) v := rdInts' Try.underlying29 Try.underlying2 ck2 hv h
end
end Go.Proofs.Ytbddekioaigbhaa
