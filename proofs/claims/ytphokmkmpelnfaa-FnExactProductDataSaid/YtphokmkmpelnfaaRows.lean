/-
  No cell of these rows narrows 'for every input' (looked for: loops, veiled, ifaces, maps, wideKeys, modest, calm, conditions, laid).
  DERIVED. THE GIVEN ROWS OF THIS SEAT. 4 by the template 'for every input the law returns true; each argument reads behind the call as it read before'; 0 by the template 'total and deterministic' (their statements: YtphokmkmpelnfaaTotals.lean).
  GIVEN WITH THE SEED: the statements are not yours to turn. If you find one false, say at which input.
  Laid BY PROGRAM, IN A SANDBOX (cutbox-rows.mjs): the forced cells as the released guide's own fill.sh prints them over the translation a78b3ccb447501aa… (all of the seat's roots in one cut). By AI agents, Wed Nov 11 2026. No macro, syntax, notation, axiom, sorry.
-/
import Derived.Test.YtphokmkmpelnfaaChecked
import GoSem.Claim
import GoSem.ClaimJoined
import GoSem.ClaimMapViews
import Derived.JoinedTies
import Derived.KernelRfl
namespace Go.Proofs.Ytphokmkmpelnfaa
/- THE CELL 'sum', in the pinned program and in every row, IS THE sha256 OF THE DUMP (.gsa) THAT YtphokmkmpelnfaaProg.lean LOADS. Nothing in Lean hashes anything: it is a label: what it is worth is what the hold of that sum in a sandbox is worth. -/
noncomputable def Try.pinned : Pinned := { name := "ytphokmkmpelnfaa", sum := "a78b3ccb447501aa4886595785ff69bf1456dbfe9ab7480658a7aa9cbcddad82", checked := Try.checked }
namespace Rows
def none {H : Type} : Left H := { results := [], args := [] }

/-- 'laws.FnExactOuterInvariant': WHATEVER THE INPUT: true; the input reads as it did. -/
def fnExactOuterInvariantSpec : ChangeSpec := { name := "fnExactOuterInvariant", fn := fun _ => fun
  | [d1, d2, d3] => { results := [.lit (.bool true)], args := [d1, d2, d3] }
  | _ => none }
def fnExactOuterInvariantRow : OpenClaim := { program := "ytphokmkmpelnfaa", sum := "a78b3ccb447501aa4886595785ff69bf1456dbfe9ab7480658a7aa9cbcddad82", func := "loop.example/g01132/laws.FnExactOuterInvariant", spec := "fnExactOuterInvariant", unfollowed := true, recurses := true, apart := false }
def FnExactOuterInvariantSaid : Prop := fnExactOuterInvariantRow.holds Try.pinned (OpenSpec.ofChange fnExactOuterInvariantSpec)

/-- ITS FALSE NEIGHBOUR: 'it returns false'. Refute it at one input. -/
def fnExactOuterInvariantWrong : ChangeSpec := { name := "fnExactOuterInvariant", fn := fun _ => fun
  | [d1, d2, d3] => { results := [.lit (.bool false)], args := [d1, d2, d3] }
  | _ => none }
def FnExactOuterInvariantWrongFalsely : Prop := fnExactOuterInvariantRow.holds Try.pinned (OpenSpec.ofChange fnExactOuterInvariantWrong)

/-- 'laws.FnExactComposeInvariants': WHATEVER THE INPUT: true; the input reads as it did. -/
def fnExactComposeInvariantsSpec : ChangeSpec := { name := "fnExactComposeInvariants", fn := fun _ => fun
  | [d1, d2, d3] => { results := [.lit (.bool true)], args := [d1, d2, d3] }
  | _ => none }
def fnExactComposeInvariantsRow : OpenClaim := { program := "ytphokmkmpelnfaa", sum := "a78b3ccb447501aa4886595785ff69bf1456dbfe9ab7480658a7aa9cbcddad82", func := "loop.example/g01132/laws.FnExactComposeInvariants", spec := "fnExactComposeInvariants", unfollowed := true, recurses := true, apart := false }
def FnExactComposeInvariantsSaid : Prop := fnExactComposeInvariantsRow.holds Try.pinned (OpenSpec.ofChange fnExactComposeInvariantsSpec)

/-- ITS FALSE NEIGHBOUR: 'it returns false'. Refute it at one input. -/
def fnExactComposeInvariantsWrong : ChangeSpec := { name := "fnExactComposeInvariants", fn := fun _ => fun
  | [d1, d2, d3] => { results := [.lit (.bool false)], args := [d1, d2, d3] }
  | _ => none }
def FnExactComposeInvariantsWrongFalsely : Prop := fnExactComposeInvariantsRow.holds Try.pinned (OpenSpec.ofChange fnExactComposeInvariantsWrong)

/-- 'laws.FnExactProductData': WHATEVER THE INPUT: true; the input reads as it did. -/
def fnExactProductDataSpec : ChangeSpec := { name := "fnExactProductData", fn := fun _ => fun
  | [d1, d2] => { results := [.lit (.bool true)], args := [d1, d2] }
  | _ => none }
def fnExactProductDataRow : OpenClaim := { program := "ytphokmkmpelnfaa", sum := "a78b3ccb447501aa4886595785ff69bf1456dbfe9ab7480658a7aa9cbcddad82", func := "loop.example/g01132/laws.FnExactProductData", spec := "fnExactProductData", unfollowed := true, recurses := true, apart := false }
def FnExactProductDataSaid : Prop := fnExactProductDataRow.holds Try.pinned (OpenSpec.ofChange fnExactProductDataSpec)

/-- ITS FALSE NEIGHBOUR: 'it returns false'. Refute it at one input. -/
def fnExactProductDataWrong : ChangeSpec := { name := "fnExactProductData", fn := fun _ => fun
  | [d1, d2] => { results := [.lit (.bool false)], args := [d1, d2] }
  | _ => none }
def FnExactProductDataWrongFalsely : Prop := fnExactProductDataRow.holds Try.pinned (OpenSpec.ofChange fnExactProductDataWrong)

/-- 'laws.FnExactActionOfCharge': WHATEVER THE INPUT: true; the input reads as it did. -/
def fnExactActionOfChargeSpec : ChangeSpec := { name := "fnExactActionOfCharge", fn := fun _ => fun
  | [d1, d2] => { results := [.lit (.bool true)], args := [d1, d2] }
  | _ => none }
def fnExactActionOfChargeRow : OpenClaim := { program := "ytphokmkmpelnfaa", sum := "a78b3ccb447501aa4886595785ff69bf1456dbfe9ab7480658a7aa9cbcddad82", func := "loop.example/g01132/laws.FnExactActionOfCharge", spec := "fnExactActionOfCharge", unfollowed := true, recurses := true, apart := false }
def FnExactActionOfChargeSaid : Prop := fnExactActionOfChargeRow.holds Try.pinned (OpenSpec.ofChange fnExactActionOfChargeSpec)

/-- ITS FALSE NEIGHBOUR: 'it returns false'. Refute it at one input. -/
def fnExactActionOfChargeWrong : ChangeSpec := { name := "fnExactActionOfCharge", fn := fun _ => fun
  | [d1, d2] => { results := [.lit (.bool false)], args := [d1, d2] }
  | _ => none }
def FnExactActionOfChargeWrongFalsely : Prop := fnExactActionOfChargeRow.holds Try.pinned (OpenSpec.ofChange fnExactActionOfChargeWrong)

/- THE SECOND FORM. 'bulk': how many values and letters a reading holds, each counted each time it is reached (what is shared counts as often as it is met; a slice's spare places count too). A statement '..UptoSaid' is the law's where the arguments, and the package variables that the reading takes, are together of bulk at most 1048576: NARROWER than '..Said'. Prove '..Said' where nothing that the law and all that it calls make is longer than what came in: it says more and counts as full. Else prove '..UptoSaid'. A law counts once. -/
mutual
def uptoBulk {H : Type} : DataW H → Nat
  | .lit (.string bytes) => bytes.length + 1
  | .lit _ => 1
  | .nil => 1
  | .ptr d => uptoBulk d + 1
  | .slice elems spare => uptoBulkAll elems + uptoBulkAll spare + 1
  | .agg parts => uptoBulkAll parts + 1
  | .iface _ d => uptoBulk d + 1
  | .map entries => uptoBulkEntries entries + 1
  | .held _ => 1
def uptoBulkAll {H : Type} : List (DataW H) → Nat
  | [] => 0
  | d :: r => uptoBulk d + uptoBulkAll r
def uptoBulkEntries {H : Type} : List (Lit × DataW H) → Nat
  | [] => 0
  | x :: r => uptoBulkEntry x + uptoBulkEntries r
def uptoBulkEntry {H : Type} : Lit × DataW H → Nat
  | (.string bytes, d) => bytes.length + uptoBulk d + 1
  | (_, d) => uptoBulk d + 1
 end
def uptoSmall : (H : Type) → List (DataW H) → Bool := fun _ ds => decide (uptoBulkAll ds ≤ 1048576)
def OpenSpec.upto (s : _root_.Go.ChangeSpec) : _root_.Go.OpenSpec := { _root_.Go.OpenSpec.ofChange s with cond := some uptoSmall }

/-- 'laws.FnExactOuterInvariant', WHERE WHAT IT READS IS OF BULK AT MOST 1048576: true; the input reads as it did. -/
def fnExactOuterInvariantUptoRow : OpenClaim := { program := "ytphokmkmpelnfaa", sum := "a78b3ccb447501aa4886595785ff69bf1456dbfe9ab7480658a7aa9cbcddad82", func := "loop.example/g01132/laws.FnExactOuterInvariant", spec := "fnExactOuterInvariant", unfollowed := true, recurses := true, apart := false, narrowed := true }
def FnExactOuterInvariantUptoSaid : Prop := fnExactOuterInvariantUptoRow.holds Try.pinned (OpenSpec.upto fnExactOuterInvariantSpec)

/-- 'laws.FnExactComposeInvariants', WHERE WHAT IT READS IS OF BULK AT MOST 1048576: true; the input reads as it did. -/
def fnExactComposeInvariantsUptoRow : OpenClaim := { program := "ytphokmkmpelnfaa", sum := "a78b3ccb447501aa4886595785ff69bf1456dbfe9ab7480658a7aa9cbcddad82", func := "loop.example/g01132/laws.FnExactComposeInvariants", spec := "fnExactComposeInvariants", unfollowed := true, recurses := true, apart := false, narrowed := true }
def FnExactComposeInvariantsUptoSaid : Prop := fnExactComposeInvariantsUptoRow.holds Try.pinned (OpenSpec.upto fnExactComposeInvariantsSpec)

/-- 'laws.FnExactProductData', WHERE WHAT IT READS IS OF BULK AT MOST 1048576: true; the input reads as it did. -/
def fnExactProductDataUptoRow : OpenClaim := { program := "ytphokmkmpelnfaa", sum := "a78b3ccb447501aa4886595785ff69bf1456dbfe9ab7480658a7aa9cbcddad82", func := "loop.example/g01132/laws.FnExactProductData", spec := "fnExactProductData", unfollowed := true, recurses := true, apart := false, narrowed := true }
def FnExactProductDataUptoSaid : Prop := fnExactProductDataUptoRow.holds Try.pinned (OpenSpec.upto fnExactProductDataSpec)

/-- 'laws.FnExactActionOfCharge', WHERE WHAT IT READS IS OF BULK AT MOST 1048576: true; the input reads as it did. -/
def fnExactActionOfChargeUptoRow : OpenClaim := { program := "ytphokmkmpelnfaa", sum := "a78b3ccb447501aa4886595785ff69bf1456dbfe9ab7480658a7aa9cbcddad82", func := "loop.example/g01132/laws.FnExactActionOfCharge", spec := "fnExactActionOfCharge", unfollowed := true, recurses := true, apart := false, narrowed := true }
def FnExactActionOfChargeUptoSaid : Prop := fnExactActionOfChargeUptoRow.holds Try.pinned (OpenSpec.upto fnExactActionOfChargeSpec)

end Rows
end Go.Proofs.Ytphokmkmpelnfaa
