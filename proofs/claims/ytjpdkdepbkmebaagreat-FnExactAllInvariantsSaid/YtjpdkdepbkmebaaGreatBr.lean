import Derived.Test.YtjpdkdepbkmebaaGreatLib3
import Derived.Test.YtjpdkdepbkmebaaGreatTy
import Derived.KernelRfl
set_option linter.unusedSimpArgs false
set_option linter.unusedVariables false
namespace Go.Proofs.YtjpdkdepbkmebaaGreat
open Go Go.Aw
section
variable {H : Type} {enc : TypeId × Value → H} {W : World} {base : Nat} {v : Value} {d : DataW H} {p : List MemPlace}
set_option maxRecDepth 100000 in
theorem rdInt (hv : Value.okWide Tryz.prog W .any base 2 v) (h : DataW.Trod enc Tryz.prog W 0 (fun _ => true) true 2 v d p) : ∃ x, Rd W (lower W) (.int x) v := rdInt' Tryz.underlying2 hv h
end
end Go.Proofs.YtjpdkdepbkmebaaGreat
