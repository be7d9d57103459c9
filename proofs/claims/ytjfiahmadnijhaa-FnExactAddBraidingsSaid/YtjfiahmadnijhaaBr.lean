/-
  What the row reads of an argument, as lists: for this program's types.
-/
import Derived.Test.YtjfiahmadnijhaaLib3
import Derived.Test.YtjfiahmadnijhaaTy
import Derived.KernelRfl
set_option linter.unusedSimpArgs false
set_option linter.unusedVariables false
namespace Go.Proofs.Ytjfiahmadnijhaa
open Go Go.Aw
section
variable {H : Type} {enc : TypeId × Value → H} {W : World} {base : Nat} {v : Value} {d : DataW H} {p : List MemPlace}
set_option maxRecDepth 100000 in
theorem rdInt (hv : Value.okWide Try.prog W .any base 2 v) (h : DataW.Trod enc Try.prog W 0 (fun _ => true) true 2 v d p) : ∃ x, Rd W (lower W) (.int x) v := rdInt' Try.underlying2 hv h
set_option maxRecDepth 100000 in
theorem rdInts (hv : Value.okWide Try.prog W .any base 22 v) (h : DataW.Trod enc Try.prog W 0 (fun _ => true) true 22 v d p) : ∃ x, Rd W (lower W) (.l1 x) v := rdInts' Try.underlying22 Try.underlying2 ck2 hv h
end
end Go.Proofs.Ytjfiahmadnijhaa
