/-
  No cell of these rows narrows 'for every input' (looked for: loops, veiled, ifaces, maps, wideKeys, modest, calm, conditions, laid).
  DERIVED. THE GIVEN ROWS OF THIS SEAT. 11 by the template 'for every input the law returns true; each argument reads behind the call as it read before'; 0 by the template 'total and deterministic' (their statements: YtomfedhhfcelkaaTotals.lean).
  GIVEN WITH THE SEED: the statements are not yours to turn. If you find one false, say at which input.
  Laid BY PROGRAM, IN A SANDBOX (cutbox-rows.mjs): the forced cells as the released guide's own fill.sh prints them over the translation 9c07c8629cd21d6a… (all of the seat's roots in one cut). By AI agents, Wed Nov 11 2026. No macro, syntax, notation, axiom, sorry.
-/
import Derived.Test.YtomfedhhfcelkaaChecked
import GoSem.Claim
import GoSem.ClaimJoined
import GoSem.ClaimMapViews
import Derived.JoinedTies
import Derived.KernelRfl
namespace Go.Proofs.Ytomfedhhfcelkaa
/- THE CELL 'sum', in the pinned program and in every row, IS THE sha256 OF THE DUMP (.gsa) THAT YtomfedhhfcelkaaProg.lean LOADS. Nothing in Lean hashes anything: it is a label: what it is worth is what the hold of that sum in a sandbox is worth. -/
noncomputable def Try.pinned : Pinned := { name := "ytomfedhhfcelkaa", sum := "9c07c8629cd21d6a540b27045b86a24aef116dbb971ab7a3ac4a6cfcd8e1156a", checked := Try.checked }
namespace Rows
def none {H : Type} : Left H := { results := [], args := [] }

/-- 'laws.FnExactActionFault': WHATEVER THE INPUT: true; the input reads as it did. -/
def fnExactActionFaultSpec : ChangeSpec := { name := "fnExactActionFault", fn := fun _ => fun
  | [d1, d2] => { results := [.lit (.bool true)], args := [d1, d2] }
  | _ => none }
def fnExactActionFaultRow : OpenClaim := { program := "ytomfedhhfcelkaa", sum := "9c07c8629cd21d6a540b27045b86a24aef116dbb971ab7a3ac4a6cfcd8e1156a", func := "loop.example/g01132/laws.FnExactActionFault", spec := "fnExactActionFault", unfollowed := true, recurses := true, apart := false }
def FnExactActionFaultSaid : Prop := fnExactActionFaultRow.holds Try.pinned (OpenSpec.ofChange fnExactActionFaultSpec)

/-- ITS FALSE NEIGHBOUR: 'it returns false'. Refute it at one input. -/
def fnExactActionFaultWrong : ChangeSpec := { name := "fnExactActionFault", fn := fun _ => fun
  | [d1, d2] => { results := [.lit (.bool false)], args := [d1, d2] }
  | _ => none }
def FnExactActionFaultWrongFalsely : Prop := fnExactActionFaultRow.holds Try.pinned (OpenSpec.ofChange fnExactActionFaultWrong)

/-- 'laws.FnExactTracesOf': WHATEVER THE INPUT: true; the input reads as it did. -/
def fnExactTracesOfSpec : ChangeSpec := { name := "fnExactTracesOf", fn := fun _ => fun
  | [d1, d2] => { results := [.lit (.bool true)], args := [d1, d2] }
  | _ => none }
def fnExactTracesOfRow : OpenClaim := { program := "ytomfedhhfcelkaa", sum := "9c07c8629cd21d6a540b27045b86a24aef116dbb971ab7a3ac4a6cfcd8e1156a", func := "loop.example/g01132/laws.FnExactTracesOf", spec := "fnExactTracesOf", unfollowed := true, recurses := true, apart := false }
def FnExactTracesOfSaid : Prop := fnExactTracesOfRow.holds Try.pinned (OpenSpec.ofChange fnExactTracesOfSpec)

/-- ITS FALSE NEIGHBOUR: 'it returns false'. Refute it at one input. -/
def fnExactTracesOfWrong : ChangeSpec := { name := "fnExactTracesOf", fn := fun _ => fun
  | [d1, d2] => { results := [.lit (.bool false)], args := [d1, d2] }
  | _ => none }
def FnExactTracesOfWrongFalsely : Prop := fnExactTracesOfRow.holds Try.pinned (OpenSpec.ofChange fnExactTracesOfWrong)

/-- 'laws.FnExactHomOf': WHATEVER THE INPUT: true; the input reads as it did. -/
def fnExactHomOfSpec : ChangeSpec := { name := "fnExactHomOf", fn := fun _ => fun
  | [d1, d2, d3, d4] => { results := [.lit (.bool true)], args := [d1, d2, d3, d4] }
  | _ => none }
def fnExactHomOfRow : OpenClaim := { program := "ytomfedhhfcelkaa", sum := "9c07c8629cd21d6a540b27045b86a24aef116dbb971ab7a3ac4a6cfcd8e1156a", func := "loop.example/g01132/laws.FnExactHomOf", spec := "fnExactHomOf", unfollowed := true, recurses := true, apart := false }
def FnExactHomOfSaid : Prop := fnExactHomOfRow.holds Try.pinned (OpenSpec.ofChange fnExactHomOfSpec)

/-- ITS FALSE NEIGHBOUR: 'it returns false'. Refute it at one input. -/
def fnExactHomOfWrong : ChangeSpec := { name := "fnExactHomOf", fn := fun _ => fun
  | [d1, d2, d3, d4] => { results := [.lit (.bool false)], args := [d1, d2, d3, d4] }
  | _ => none }
def FnExactHomOfWrongFalsely : Prop := fnExactHomOfRow.holds Try.pinned (OpenSpec.ofChange fnExactHomOfWrong)

/-- 'laws.FnExactLeastRing': WHATEVER THE INPUT: true; the input reads as it did. -/
def fnExactLeastRingSpec : ChangeSpec := { name := "fnExactLeastRing", fn := fun _ => fun
  | [d] => { results := [.lit (.bool true)], args := [d] }
  | _ => none }
def fnExactLeastRingRow : OpenClaim := { program := "ytomfedhhfcelkaa", sum := "9c07c8629cd21d6a540b27045b86a24aef116dbb971ab7a3ac4a6cfcd8e1156a", func := "loop.example/g01132/laws.FnExactLeastRing", spec := "fnExactLeastRing", unfollowed := true, recurses := true, apart := false }
def FnExactLeastRingSaid : Prop := fnExactLeastRingRow.holds Try.pinned (OpenSpec.ofChange fnExactLeastRingSpec)

/-- ITS FALSE NEIGHBOUR: 'it returns false'. Refute it at one input. -/
def fnExactLeastRingWrong : ChangeSpec := { name := "fnExactLeastRing", fn := fun _ => fun
  | [d] => { results := [.lit (.bool false)], args := [d] }
  | _ => none }
def FnExactLeastRingWrongFalsely : Prop := fnExactLeastRingRow.holds Try.pinned (OpenSpec.ofChange fnExactLeastRingWrong)

/-- 'laws.FnRings': WHATEVER THE INPUT: true; the input reads as it did. -/
def fnRingsSpec : ChangeSpec := { name := "fnRings", fn := fun _ => fun
  | [d] => { results := [.lit (.bool true)], args := [d] }
  | _ => none }
def fnRingsRow : OpenClaim := { program := "ytomfedhhfcelkaa", sum := "9c07c8629cd21d6a540b27045b86a24aef116dbb971ab7a3ac4a6cfcd8e1156a", func := "loop.example/g01132/laws.FnRings", spec := "fnRings", unfollowed := true, recurses := true, apart := false }
def FnRingsSaid : Prop := fnRingsRow.holds Try.pinned (OpenSpec.ofChange fnRingsSpec)

/-- ITS FALSE NEIGHBOUR: 'it returns false'. Refute it at one input. -/
def fnRingsWrong : ChangeSpec := { name := "fnRings", fn := fun _ => fun
  | [d] => { results := [.lit (.bool false)], args := [d] }
  | _ => none }
def FnRingsWrongFalsely : Prop := fnRingsRow.holds Try.pinned (OpenSpec.ofChange fnRingsWrong)

/-- 'laws.FnExactActOn': WHATEVER THE INPUT: true; the input reads as it did. -/
def fnExactActOnSpec : ChangeSpec := { name := "fnExactActOn", fn := fun _ => fun
  | [d1, d2, d3, d4] => { results := [.lit (.bool true)], args := [d1, d2, d3, d4] }
  | _ => none }
def fnExactActOnRow : OpenClaim := { program := "ytomfedhhfcelkaa", sum := "9c07c8629cd21d6a540b27045b86a24aef116dbb971ab7a3ac4a6cfcd8e1156a", func := "loop.example/g01132/laws.FnExactActOn", spec := "fnExactActOn", unfollowed := true, recurses := true, apart := false }
def FnExactActOnSaid : Prop := fnExactActOnRow.holds Try.pinned (OpenSpec.ofChange fnExactActOnSpec)

/-- ITS FALSE NEIGHBOUR: 'it returns false'. Refute it at one input. -/
def fnExactActOnWrong : ChangeSpec := { name := "fnExactActOn", fn := fun _ => fun
  | [d1, d2, d3, d4] => { results := [.lit (.bool false)], args := [d1, d2, d3, d4] }
  | _ => none }
def FnExactActOnWrongFalsely : Prop := fnExactActOnRow.holds Try.pinned (OpenSpec.ofChange fnExactActOnWrong)

/-- 'laws.FnExactSumOfActions': WHATEVER THE INPUT: true; the input reads as it did. -/
def fnExactSumOfActionsSpec : ChangeSpec := { name := "fnExactSumOfActions", fn := fun _ => fun
  | [d1, d2, d3] => { results := [.lit (.bool true)], args := [d1, d2, d3] }
  | _ => none }
def fnExactSumOfActionsRow : OpenClaim := { program := "ytomfedhhfcelkaa", sum := "9c07c8629cd21d6a540b27045b86a24aef116dbb971ab7a3ac4a6cfcd8e1156a", func := "loop.example/g01132/laws.FnExactSumOfActions", spec := "fnExactSumOfActions", unfollowed := true, recurses := true, apart := false }
def FnExactSumOfActionsSaid : Prop := fnExactSumOfActionsRow.holds Try.pinned (OpenSpec.ofChange fnExactSumOfActionsSpec)

/-- ITS FALSE NEIGHBOUR: 'it returns false'. Refute it at one input. -/
def fnExactSumOfActionsWrong : ChangeSpec := { name := "fnExactSumOfActions", fn := fun _ => fun
  | [d1, d2, d3] => { results := [.lit (.bool false)], args := [d1, d2, d3] }
  | _ => none }
def FnExactSumOfActionsWrongFalsely : Prop := fnExactSumOfActionsRow.holds Try.pinned (OpenSpec.ofChange fnExactSumOfActionsWrong)

/-- 'laws.FnExactIsIndecomposable': WHATEVER THE INPUT: true; the input reads as it did. -/
def fnExactIsIndecomposableSpec : ChangeSpec := { name := "fnExactIsIndecomposable", fn := fun _ => fun
  | [d1, d2] => { results := [.lit (.bool true)], args := [d1, d2] }
  | _ => none }
def fnExactIsIndecomposableRow : OpenClaim := { program := "ytomfedhhfcelkaa", sum := "9c07c8629cd21d6a540b27045b86a24aef116dbb971ab7a3ac4a6cfcd8e1156a", func := "loop.example/g01132/laws.FnExactIsIndecomposable", spec := "fnExactIsIndecomposable", unfollowed := true, recurses := true, apart := false }
def FnExactIsIndecomposableSaid : Prop := fnExactIsIndecomposableRow.holds Try.pinned (OpenSpec.ofChange fnExactIsIndecomposableSpec)

/-- ITS FALSE NEIGHBOUR: 'it returns false'. Refute it at one input. -/
def fnExactIsIndecomposableWrong : ChangeSpec := { name := "fnExactIsIndecomposable", fn := fun _ => fun
  | [d1, d2] => { results := [.lit (.bool false)], args := [d1, d2] }
  | _ => none }
def FnExactIsIndecomposableWrongFalsely : Prop := fnExactIsIndecomposableRow.holds Try.pinned (OpenSpec.ofChange fnExactIsIndecomposableWrong)

/-- 'laws.FnExactPartsOfAction': WHATEVER THE INPUT: true; the input reads as it did. -/
def fnExactPartsOfActionSpec : ChangeSpec := { name := "fnExactPartsOfAction", fn := fun _ => fun
  | [d1, d2] => { results := [.lit (.bool true)], args := [d1, d2] }
  | _ => none }
def fnExactPartsOfActionRow : OpenClaim := { program := "ytomfedhhfcelkaa", sum := "9c07c8629cd21d6a540b27045b86a24aef116dbb971ab7a3ac4a6cfcd8e1156a", func := "loop.example/g01132/laws.FnExactPartsOfAction", spec := "fnExactPartsOfAction", unfollowed := true, recurses := true, apart := false }
def FnExactPartsOfActionSaid : Prop := fnExactPartsOfActionRow.holds Try.pinned (OpenSpec.ofChange fnExactPartsOfActionSpec)

/-- ITS FALSE NEIGHBOUR: 'it returns false'. Refute it at one input. -/
def fnExactPartsOfActionWrong : ChangeSpec := { name := "fnExactPartsOfAction", fn := fun _ => fun
  | [d1, d2] => { results := [.lit (.bool false)], args := [d1, d2] }
  | _ => none }
def FnExactPartsOfActionWrongFalsely : Prop := fnExactPartsOfActionRow.holds Try.pinned (OpenSpec.ofChange fnExactPartsOfActionWrong)

/-- 'laws.FnRingKinds': WHATEVER THE INPUT: true; the input reads as it did. -/
def fnRingKindsSpec : ChangeSpec := { name := "fnRingKinds", fn := fun _ => fun
  | [d] => { results := [.lit (.bool true)], args := [d] }
  | _ => none }
def fnRingKindsRow : OpenClaim := { program := "ytomfedhhfcelkaa", sum := "9c07c8629cd21d6a540b27045b86a24aef116dbb971ab7a3ac4a6cfcd8e1156a", func := "loop.example/g01132/laws.FnRingKinds", spec := "fnRingKinds", unfollowed := true, recurses := true, apart := false }
def FnRingKindsSaid : Prop := fnRingKindsRow.holds Try.pinned (OpenSpec.ofChange fnRingKindsSpec)

/-- ITS FALSE NEIGHBOUR: 'it returns false'. Refute it at one input. -/
def fnRingKindsWrong : ChangeSpec := { name := "fnRingKinds", fn := fun _ => fun
  | [d] => { results := [.lit (.bool false)], args := [d] }
  | _ => none }
def FnRingKindsWrongFalsely : Prop := fnRingKindsRow.holds Try.pinned (OpenSpec.ofChange fnRingKindsWrong)

/-- 'laws.FnExactPartAt': WHATEVER THE INPUT: true; the input reads as it did. -/
def fnExactPartAtSpec : ChangeSpec := { name := "fnExactPartAt", fn := fun _ => fun
  | [d1, d2, d3] => { results := [.lit (.bool true)], args := [d1, d2, d3] }
  | _ => none }
def fnExactPartAtRow : OpenClaim := { program := "ytomfedhhfcelkaa", sum := "9c07c8629cd21d6a540b27045b86a24aef116dbb971ab7a3ac4a6cfcd8e1156a", func := "loop.example/g01132/laws.FnExactPartAt", spec := "fnExactPartAt", unfollowed := true, recurses := true, apart := false }
def FnExactPartAtSaid : Prop := fnExactPartAtRow.holds Try.pinned (OpenSpec.ofChange fnExactPartAtSpec)

/-- ITS FALSE NEIGHBOUR: 'it returns false'. Refute it at one input. -/
def fnExactPartAtWrong : ChangeSpec := { name := "fnExactPartAt", fn := fun _ => fun
  | [d1, d2, d3] => { results := [.lit (.bool false)], args := [d1, d2, d3] }
  | _ => none }
def FnExactPartAtWrongFalsely : Prop := fnExactPartAtRow.holds Try.pinned (OpenSpec.ofChange fnExactPartAtWrong)

/- THE SECOND FORM. 'bulk': how many values and letters a reading holds, each counted each time it is reached (what is shared counts as often as it is met; a slice's spare places count too). A statement '..UptoSaid' is the law's where the arguments, and the package variables that the reading takes, are together of bulk at most 1048576: NARROWER than '..Said'. Prove '..Said' where nothing that the law and all that it calls make is longer than what came in: it says more and counts as full. Else prove '..UptoSaid'. A law counts once. -/
mutual
def uptoBulk {H : Type} : DataW H → Nat
  | .lit (.string bytes) => bytes.length + 1
  | .lit _ => 1
  | .nil => 1
  | .ptr d => uptoBulk d + 1
  | .slice elems spare => uptoBulkAll elems + uptoBulkAll spare + 1
  | .agg parts => uptoBulkAll parts + 1
  | .iface _ d => uptoBulk d + 1
  | .map entries => uptoBulkEntries entries + 1
  | .held _ => 1
def uptoBulkAll {H : Type} : List (DataW H) → Nat
  | [] => 0
  | d :: r => uptoBulk d + uptoBulkAll r
def uptoBulkEntries {H : Type} : List (Lit × DataW H) → Nat
  | [] => 0
  | x :: r => uptoBulkEntry x + uptoBulkEntries r
def uptoBulkEntry {H : Type} : Lit × DataW H → Nat
  | (.string bytes, d) => bytes.length + uptoBulk d + 1
  | (_, d) => uptoBulk d + 1
 end
def uptoSmall : (H : Type) → List (DataW H) → Bool := fun _ ds => decide (uptoBulkAll ds ≤ 1048576)
def OpenSpec.upto (s : _root_.Go.ChangeSpec) : _root_.Go.OpenSpec := { _root_.Go.OpenSpec.ofChange s with cond := some uptoSmall }

/-- 'laws.FnExactActionFault', WHERE WHAT IT READS IS OF BULK AT MOST 1048576: true; the input reads as it did. -/
def fnExactActionFaultUptoRow : OpenClaim := { program := "ytomfedhhfcelkaa", sum := "9c07c8629cd21d6a540b27045b86a24aef116dbb971ab7a3ac4a6cfcd8e1156a", func := "loop.example/g01132/laws.FnExactActionFault", spec := "fnExactActionFault", unfollowed := true, recurses := true, apart := false, narrowed := true }
def FnExactActionFaultUptoSaid : Prop := fnExactActionFaultUptoRow.holds Try.pinned (OpenSpec.upto fnExactActionFaultSpec)

/-- 'laws.FnExactTracesOf', WHERE WHAT IT READS IS OF BULK AT MOST 1048576: true; the input reads as it did. -/
def fnExactTracesOfUptoRow : OpenClaim := { program := "ytomfedhhfcelkaa", sum := "9c07c8629cd21d6a540b27045b86a24aef116dbb971ab7a3ac4a6cfcd8e1156a", func := "loop.example/g01132/laws.FnExactTracesOf", spec := "fnExactTracesOf", unfollowed := true, recurses := true, apart := false, narrowed := true }
def FnExactTracesOfUptoSaid : Prop := fnExactTracesOfUptoRow.holds Try.pinned (OpenSpec.upto fnExactTracesOfSpec)

/-- 'laws.FnExactHomOf', WHERE WHAT IT READS IS OF BULK AT MOST 1048576: true; the input reads as it did. -/
def fnExactHomOfUptoRow : OpenClaim := { program := "ytomfedhhfcelkaa", sum := "9c07c8629cd21d6a540b27045b86a24aef116dbb971ab7a3ac4a6cfcd8e1156a", func := "loop.example/g01132/laws.FnExactHomOf", spec := "fnExactHomOf", unfollowed := true, recurses := true, apart := false, narrowed := true }
def FnExactHomOfUptoSaid : Prop := fnExactHomOfUptoRow.holds Try.pinned (OpenSpec.upto fnExactHomOfSpec)

/-- 'laws.FnExactLeastRing', WHERE WHAT IT READS IS OF BULK AT MOST 1048576: true; the input reads as it did. -/
def fnExactLeastRingUptoRow : OpenClaim := { program := "ytomfedhhfcelkaa", sum := "9c07c8629cd21d6a540b27045b86a24aef116dbb971ab7a3ac4a6cfcd8e1156a", func := "loop.example/g01132/laws.FnExactLeastRing", spec := "fnExactLeastRing", unfollowed := true, recurses := true, apart := false, narrowed := true }
def FnExactLeastRingUptoSaid : Prop := fnExactLeastRingUptoRow.holds Try.pinned (OpenSpec.upto fnExactLeastRingSpec)

/-- 'laws.FnRings', WHERE WHAT IT READS IS OF BULK AT MOST 1048576: true; the input reads as it did. -/
def fnRingsUptoRow : OpenClaim := { program := "ytomfedhhfcelkaa", sum := "9c07c8629cd21d6a540b27045b86a24aef116dbb971ab7a3ac4a6cfcd8e1156a", func := "loop.example/g01132/laws.FnRings", spec := "fnRings", unfollowed := true, recurses := true, apart := false, narrowed := true }
def FnRingsUptoSaid : Prop := fnRingsUptoRow.holds Try.pinned (OpenSpec.upto fnRingsSpec)

/-- 'laws.FnExactActOn', WHERE WHAT IT READS IS OF BULK AT MOST 1048576: true; the input reads as it did. -/
def fnExactActOnUptoRow : OpenClaim := { program := "ytomfedhhfcelkaa", sum := "9c07c8629cd21d6a540b27045b86a24aef116dbb971ab7a3ac4a6cfcd8e1156a", func := "loop.example/g01132/laws.FnExactActOn", spec := "fnExactActOn", unfollowed := true, recurses := true, apart := false, narrowed := true }
def FnExactActOnUptoSaid : Prop := fnExactActOnUptoRow.holds Try.pinned (OpenSpec.upto fnExactActOnSpec)

/-- 'laws.FnExactSumOfActions', WHERE WHAT IT READS IS OF BULK AT MOST 1048576: true; the input reads as it did. -/
def fnExactSumOfActionsUptoRow : OpenClaim := { program := "ytomfedhhfcelkaa", sum := "9c07c8629cd21d6a540b27045b86a24aef116dbb971ab7a3ac4a6cfcd8e1156a", func := "loop.example/g01132/laws.FnExactSumOfActions", spec := "fnExactSumOfActions", unfollowed := true, recurses := true, apart := false, narrowed := true }
def FnExactSumOfActionsUptoSaid : Prop := fnExactSumOfActionsUptoRow.holds Try.pinned (OpenSpec.upto fnExactSumOfActionsSpec)

/-- 'laws.FnExactIsIndecomposable', WHERE WHAT IT READS IS OF BULK AT MOST 1048576: true; the input reads as it did. -/
def fnExactIsIndecomposableUptoRow : OpenClaim := { program := "ytomfedhhfcelkaa", sum := "9c07c8629cd21d6a540b27045b86a24aef116dbb971ab7a3ac4a6cfcd8e1156a", func := "loop.example/g01132/laws.FnExactIsIndecomposable", spec := "fnExactIsIndecomposable", unfollowed := true, recurses := true, apart := false, narrowed := true }
def FnExactIsIndecomposableUptoSaid : Prop := fnExactIsIndecomposableUptoRow.holds Try.pinned (OpenSpec.upto fnExactIsIndecomposableSpec)

/-- 'laws.FnExactPartsOfAction', WHERE WHAT IT READS IS OF BULK AT MOST 1048576: true; the input reads as it did. -/
def fnExactPartsOfActionUptoRow : OpenClaim := { program := "ytomfedhhfcelkaa", sum := "9c07c8629cd21d6a540b27045b86a24aef116dbb971ab7a3ac4a6cfcd8e1156a", func := "loop.example/g01132/laws.FnExactPartsOfAction", spec := "fnExactPartsOfAction", unfollowed := true, recurses := true, apart := false, narrowed := true }
def FnExactPartsOfActionUptoSaid : Prop := fnExactPartsOfActionUptoRow.holds Try.pinned (OpenSpec.upto fnExactPartsOfActionSpec)

/-- 'laws.FnRingKinds', WHERE WHAT IT READS IS OF BULK AT MOST 1048576: true; the input reads as it did. -/
def fnRingKindsUptoRow : OpenClaim := { program := "ytomfedhhfcelkaa", sum := "9c07c8629cd21d6a540b27045b86a24aef116dbb971ab7a3ac4a6cfcd8e1156a", func := "loop.example/g01132/laws.FnRingKinds", spec := "fnRingKinds", unfollowed := true, recurses := true, apart := false, narrowed := true }
def FnRingKindsUptoSaid : Prop := fnRingKindsUptoRow.holds Try.pinned (OpenSpec.upto fnRingKindsSpec)

/-- 'laws.FnExactPartAt', WHERE WHAT IT READS IS OF BULK AT MOST 1048576: true; the input reads as it did. -/
def fnExactPartAtUptoRow : OpenClaim := { program := "ytomfedhhfcelkaa", sum := "9c07c8629cd21d6a540b27045b86a24aef116dbb971ab7a3ac4a6cfcd8e1156a", func := "loop.example/g01132/laws.FnExactPartAt", spec := "fnExactPartAt", unfollowed := true, recurses := true, apart := false, narrowed := true }
def FnExactPartAtUptoSaid : Prop := fnExactPartAtUptoRow.holds Try.pinned (OpenSpec.upto fnExactPartAtSpec)

end Rows
end Go.Proofs.Ytomfedhhfcelkaa
