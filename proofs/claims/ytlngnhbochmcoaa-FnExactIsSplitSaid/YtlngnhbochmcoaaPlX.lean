import Derived.Test.YtlngnhbochmcoaaPl5
set_option linter.unusedSimpArgs false
set_option linter.unusedVariables false
namespace Go.Pl
open Go
def fr (t : List Int) (i : Nat) : Bool := decide (1 ≤ i) && decide (t.getD i 0 = 1)
def cntF (t : List Int) : Nat → Nat → Nat
 | _, 0 => 0
 | i, d + 1 => (if fr t i = true then 1 else 0) + cntF t (i + 1) d
def cb (t : List Int) (i : Nat) : Nat := cntF t 0 i
end Go.Pl
