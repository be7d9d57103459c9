/-
  No cell of these rows narrows 'for every input' (looked for: loops, veiled, ifaces, maps, wideKeys, modest, calm, conditions, laid).
  DERIVED. THE GIVEN ROWS OF THIS SEAT. 11 by the template 'for every input the law returns true; each argument reads behind the call as it read before'; 0 by the template 'total and deterministic' (their statements: YtafkbnicffieeaaTotals.lean).
  GIVEN WITH THE SEED: the statements are not yours to turn. If you find one false, say at which input.
  Laid BY PROGRAM, IN A SANDBOX (cutbox-rows.mjs): the forced cells as the released guide's own fill.sh prints them over the translation c51967ddcb43cb3a… (all of the seat's roots in one cut). By AI agents, Wed Nov 11 2026. No macro, syntax, notation, axiom, sorry.
-/
import Derived.Test.YtafkbnicffieeaaChecked
import GoSem.Claim
import GoSem.ClaimJoined
import GoSem.ClaimMapViews
import Derived.JoinedTies
import Derived.KernelRfl
namespace Go.Proofs.Ytafkbnicffieeaa
/- THE CELL 'sum', in the pinned program and in every row, IS THE sha256 OF THE DUMP (.gsa) THAT YtafkbnicffieeaaProg.lean LOADS. Nothing in Lean hashes anything: it is a label: what it is worth is what the hold of that sum in a sandbox is worth. -/
noncomputable def Try.pinned : Pinned := { name := "ytafkbnicffieeaa", sum := "c51967ddcb43cb3a53e554d274d20a8900c27e4bca1f6f0f58fd5c0d0903d020", checked := Try.checked }
namespace Rows
def none {H : Type} : Left H := { results := [], args := [] }

/-- 'laws.FnExactCountBraidings': WHATEVER THE INPUT: true; the input reads as it did. -/
def fnExactCountBraidingsSpec : ChangeSpec := { name := "fnExactCountBraidings", fn := fun _ => fun
  | [d] => { results := [.lit (.bool true)], args := [d] }
  | _ => none }
def fnExactCountBraidingsRow : OpenClaim := { program := "ytafkbnicffieeaa", sum := "c51967ddcb43cb3a53e554d274d20a8900c27e4bca1f6f0f58fd5c0d0903d020", func := "loop.example/g01132/laws.FnExactCountBraidings", spec := "fnExactCountBraidings", unfollowed := true, recurses := true, apart := false }
def FnExactCountBraidingsSaid : Prop := fnExactCountBraidingsRow.holds Try.pinned (OpenSpec.ofChange fnExactCountBraidingsSpec)

/-- ITS FALSE NEIGHBOUR: 'it returns false'. Refute it at one input. -/
def fnExactCountBraidingsWrong : ChangeSpec := { name := "fnExactCountBraidings", fn := fun _ => fun
  | [d] => { results := [.lit (.bool false)], args := [d] }
  | _ => none }
def FnExactCountBraidingsWrongFalsely : Prop := fnExactCountBraidingsRow.holds Try.pinned (OpenSpec.ofChange fnExactCountBraidingsWrong)

/-- 'laws.FnExactAddBraidings': WHATEVER THE INPUT: true; the input reads as it did. -/
def fnExactAddBraidingsSpec : ChangeSpec := { name := "fnExactAddBraidings", fn := fun _ => fun
  | [d1, d2] => { results := [.lit (.bool true)], args := [d1, d2] }
  | _ => none }
def fnExactAddBraidingsRow : OpenClaim := { program := "ytafkbnicffieeaa", sum := "c51967ddcb43cb3a53e554d274d20a8900c27e4bca1f6f0f58fd5c0d0903d020", func := "loop.example/g01132/laws.FnExactAddBraidings", spec := "fnExactAddBraidings", unfollowed := true, recurses := true, apart := false }
def FnExactAddBraidingsSaid : Prop := fnExactAddBraidingsRow.holds Try.pinned (OpenSpec.ofChange fnExactAddBraidingsSpec)

/-- ITS FALSE NEIGHBOUR: 'it returns false'. Refute it at one input. -/
def fnExactAddBraidingsWrong : ChangeSpec := { name := "fnExactAddBraidings", fn := fun _ => fun
  | [d1, d2] => { results := [.lit (.bool false)], args := [d1, d2] }
  | _ => none }
def FnExactAddBraidingsWrongFalsely : Prop := fnExactAddBraidingsRow.holds Try.pinned (OpenSpec.ofChange fnExactAddBraidingsWrong)

/-- 'laws.FnExactIdempotentOf': WHATEVER THE INPUT: true; the input reads as it did. -/
def fnExactIdempotentOfSpec : ChangeSpec := { name := "fnExactIdempotentOf", fn := fun _ => fun
  | [d1, d2] => { results := [.lit (.bool true)], args := [d1, d2] }
  | _ => none }
def fnExactIdempotentOfRow : OpenClaim := { program := "ytafkbnicffieeaa", sum := "c51967ddcb43cb3a53e554d274d20a8900c27e4bca1f6f0f58fd5c0d0903d020", func := "loop.example/g01132/laws.FnExactIdempotentOf", spec := "fnExactIdempotentOf", unfollowed := true, recurses := true, apart := false }
def FnExactIdempotentOfSaid : Prop := fnExactIdempotentOfRow.holds Try.pinned (OpenSpec.ofChange fnExactIdempotentOfSpec)

/-- ITS FALSE NEIGHBOUR: 'it returns false'. Refute it at one input. -/
def fnExactIdempotentOfWrong : ChangeSpec := { name := "fnExactIdempotentOf", fn := fun _ => fun
  | [d1, d2] => { results := [.lit (.bool false)], args := [d1, d2] }
  | _ => none }
def FnExactIdempotentOfWrongFalsely : Prop := fnExactIdempotentOfRow.holds Try.pinned (OpenSpec.ofChange fnExactIdempotentOfWrong)

/-- 'laws.FnExactFirstBraiding': WHATEVER THE INPUT: true; the input reads as it did. -/
def fnExactFirstBraidingSpec : ChangeSpec := { name := "fnExactFirstBraiding", fn := fun _ => fun
  | [d] => { results := [.lit (.bool true)], args := [d] }
  | _ => none }
def fnExactFirstBraidingRow : OpenClaim := { program := "ytafkbnicffieeaa", sum := "c51967ddcb43cb3a53e554d274d20a8900c27e4bca1f6f0f58fd5c0d0903d020", func := "loop.example/g01132/laws.FnExactFirstBraiding", spec := "fnExactFirstBraiding", unfollowed := true, recurses := true, apart := false }
def FnExactFirstBraidingSaid : Prop := fnExactFirstBraidingRow.holds Try.pinned (OpenSpec.ofChange fnExactFirstBraidingSpec)

/-- ITS FALSE NEIGHBOUR: 'it returns false'. Refute it at one input. -/
def fnExactFirstBraidingWrong : ChangeSpec := { name := "fnExactFirstBraiding", fn := fun _ => fun
  | [d] => { results := [.lit (.bool false)], args := [d] }
  | _ => none }
def FnExactFirstBraidingWrongFalsely : Prop := fnExactFirstBraidingRow.holds Try.pinned (OpenSpec.ofChange fnExactFirstBraidingWrong)

/-- 'laws.FnExactIsLagrangianVector': WHATEVER THE INPUT: true; the input reads as it did. -/
def fnExactIsLagrangianVectorSpec : ChangeSpec := { name := "fnExactIsLagrangianVector", fn := fun _ => fun
  | [d1, d2] => { results := [.lit (.bool true)], args := [d1, d2] }
  | _ => none }
def fnExactIsLagrangianVectorRow : OpenClaim := { program := "ytafkbnicffieeaa", sum := "c51967ddcb43cb3a53e554d274d20a8900c27e4bca1f6f0f58fd5c0d0903d020", func := "loop.example/g01132/laws.FnExactIsLagrangianVector", spec := "fnExactIsLagrangianVector", unfollowed := true, recurses := true, apart := false }
def FnExactIsLagrangianVectorSaid : Prop := fnExactIsLagrangianVectorRow.holds Try.pinned (OpenSpec.ofChange fnExactIsLagrangianVectorSpec)

/-- ITS FALSE NEIGHBOUR: 'it returns false'. Refute it at one input. -/
def fnExactIsLagrangianVectorWrong : ChangeSpec := { name := "fnExactIsLagrangianVector", fn := fun _ => fun
  | [d1, d2] => { results := [.lit (.bool false)], args := [d1, d2] }
  | _ => none }
def FnExactIsLagrangianVectorWrongFalsely : Prop := fnExactIsLagrangianVectorRow.holds Try.pinned (OpenSpec.ofChange fnExactIsLagrangianVectorWrong)

/-- 'laws.FnExactSurfaceNumber': WHATEVER THE INPUT: true; the input reads as it did. -/
def fnExactSurfaceNumberSpec : ChangeSpec := { name := "fnExactSurfaceNumber", fn := fun _ => fun
  | [d1, d2, d3] => { results := [.lit (.bool true)], args := [d1, d2, d3] }
  | _ => none }
def fnExactSurfaceNumberRow : OpenClaim := { program := "ytafkbnicffieeaa", sum := "c51967ddcb43cb3a53e554d274d20a8900c27e4bca1f6f0f58fd5c0d0903d020", func := "loop.example/g01132/laws.FnExactSurfaceNumber", spec := "fnExactSurfaceNumber", unfollowed := true, recurses := true, apart := false }
def FnExactSurfaceNumberSaid : Prop := fnExactSurfaceNumberRow.holds Try.pinned (OpenSpec.ofChange fnExactSurfaceNumberSpec)

/-- ITS FALSE NEIGHBOUR: 'it returns false'. Refute it at one input. -/
def fnExactSurfaceNumberWrong : ChangeSpec := { name := "fnExactSurfaceNumber", fn := fun _ => fun
  | [d1, d2, d3] => { results := [.lit (.bool false)], args := [d1, d2, d3] }
  | _ => none }
def FnExactSurfaceNumberWrongFalsely : Prop := fnExactSurfaceNumberRow.holds Try.pinned (OpenSpec.ofChange fnExactSurfaceNumberWrong)

/-- 'laws.FnExactIndicatorOf': WHATEVER THE INPUT: true; the input reads as it did. -/
def fnExactIndicatorOfSpec : ChangeSpec := { name := "fnExactIndicatorOf", fn := fun _ => fun
  | [d1, d2, d3] => { results := [.lit (.bool true)], args := [d1, d2, d3] }
  | _ => none }
def fnExactIndicatorOfRow : OpenClaim := { program := "ytafkbnicffieeaa", sum := "c51967ddcb43cb3a53e554d274d20a8900c27e4bca1f6f0f58fd5c0d0903d020", func := "loop.example/g01132/laws.FnExactIndicatorOf", spec := "fnExactIndicatorOf", unfollowed := true, recurses := true, apart := false }
def FnExactIndicatorOfSaid : Prop := fnExactIndicatorOfRow.holds Try.pinned (OpenSpec.ofChange fnExactIndicatorOfSpec)

/-- ITS FALSE NEIGHBOUR: 'it returns false'. Refute it at one input. -/
def fnExactIndicatorOfWrong : ChangeSpec := { name := "fnExactIndicatorOf", fn := fun _ => fun
  | [d1, d2, d3] => { results := [.lit (.bool false)], args := [d1, d2, d3] }
  | _ => none }
def FnExactIndicatorOfWrongFalsely : Prop := fnExactIndicatorOfRow.holds Try.pinned (OpenSpec.ofChange fnExactIndicatorOfWrong)

/-- 'laws.FnExactPuncturedTorus': WHATEVER THE INPUT: true; the input reads as it did. -/
def fnExactPuncturedTorusSpec : ChangeSpec := { name := "fnExactPuncturedTorus", fn := fun _ => fun
  | [d1, d2] => { results := [.lit (.bool true)], args := [d1, d2] }
  | _ => none }
def fnExactPuncturedTorusRow : OpenClaim := { program := "ytafkbnicffieeaa", sum := "c51967ddcb43cb3a53e554d274d20a8900c27e4bca1f6f0f58fd5c0d0903d020", func := "loop.example/g01132/laws.FnExactPuncturedTorus", spec := "fnExactPuncturedTorus", unfollowed := true, recurses := true, apart := false }
def FnExactPuncturedTorusSaid : Prop := fnExactPuncturedTorusRow.holds Try.pinned (OpenSpec.ofChange fnExactPuncturedTorusSpec)

/-- ITS FALSE NEIGHBOUR: 'it returns false'. Refute it at one input. -/
def fnExactPuncturedTorusWrong : ChangeSpec := { name := "fnExactPuncturedTorus", fn := fun _ => fun
  | [d1, d2] => { results := [.lit (.bool false)], args := [d1, d2] }
  | _ => none }
def FnExactPuncturedTorusWrongFalsely : Prop := fnExactPuncturedTorusRow.holds Try.pinned (OpenSpec.ofChange fnExactPuncturedTorusWrong)

/-- 'laws.FnExactLensNumber': WHATEVER THE INPUT: true; the input reads as it did. -/
def fnExactLensNumberSpec : ChangeSpec := { name := "fnExactLensNumber", fn := fun _ => fun
  | [d1, d2] => { results := [.lit (.bool true)], args := [d1, d2] }
  | _ => none }
def fnExactLensNumberRow : OpenClaim := { program := "ytafkbnicffieeaa", sum := "c51967ddcb43cb3a53e554d274d20a8900c27e4bca1f6f0f58fd5c0d0903d020", func := "loop.example/g01132/laws.FnExactLensNumber", spec := "fnExactLensNumber", unfollowed := true, recurses := true, apart := false }
def FnExactLensNumberSaid : Prop := fnExactLensNumberRow.holds Try.pinned (OpenSpec.ofChange fnExactLensNumberSpec)

/-- ITS FALSE NEIGHBOUR: 'it returns false'. Refute it at one input. -/
def fnExactLensNumberWrong : ChangeSpec := { name := "fnExactLensNumber", fn := fun _ => fun
  | [d1, d2] => { results := [.lit (.bool false)], args := [d1, d2] }
  | _ => none }
def FnExactLensNumberWrongFalsely : Prop := fnExactLensNumberRow.holds Try.pinned (OpenSpec.ofChange fnExactLensNumberWrong)

/-- 'laws.FnExactIsInvariant': WHATEVER THE INPUT: true; the input reads as it did. -/
def fnExactIsInvariantSpec : ChangeSpec := { name := "fnExactIsInvariant", fn := fun _ => fun
  | [d1, d2] => { results := [.lit (.bool true)], args := [d1, d2] }
  | _ => none }
def fnExactIsInvariantRow : OpenClaim := { program := "ytafkbnicffieeaa", sum := "c51967ddcb43cb3a53e554d274d20a8900c27e4bca1f6f0f58fd5c0d0903d020", func := "loop.example/g01132/laws.FnExactIsInvariant", spec := "fnExactIsInvariant", unfollowed := true, recurses := true, apart := false }
def FnExactIsInvariantSaid : Prop := fnExactIsInvariantRow.holds Try.pinned (OpenSpec.ofChange fnExactIsInvariantSpec)

/-- ITS FALSE NEIGHBOUR: 'it returns false'. Refute it at one input. -/
def fnExactIsInvariantWrong : ChangeSpec := { name := "fnExactIsInvariant", fn := fun _ => fun
  | [d1, d2] => { results := [.lit (.bool false)], args := [d1, d2] }
  | _ => none }
def FnExactIsInvariantWrongFalsely : Prop := fnExactIsInvariantRow.holds Try.pinned (OpenSpec.ofChange fnExactIsInvariantWrong)

/-- 'laws.FnExactInvertibleCharges': WHATEVER THE INPUT: true; the input reads as it did. -/
def fnExactInvertibleChargesSpec : ChangeSpec := { name := "fnExactInvertibleCharges", fn := fun _ => fun
  | [d] => { results := [.lit (.bool true)], args := [d] }
  | _ => none }
def fnExactInvertibleChargesRow : OpenClaim := { program := "ytafkbnicffieeaa", sum := "c51967ddcb43cb3a53e554d274d20a8900c27e4bca1f6f0f58fd5c0d0903d020", func := "loop.example/g01132/laws.FnExactInvertibleCharges", spec := "fnExactInvertibleCharges", unfollowed := true, recurses := true, apart := false }
def FnExactInvertibleChargesSaid : Prop := fnExactInvertibleChargesRow.holds Try.pinned (OpenSpec.ofChange fnExactInvertibleChargesSpec)

/-- ITS FALSE NEIGHBOUR: 'it returns false'. Refute it at one input. -/
def fnExactInvertibleChargesWrong : ChangeSpec := { name := "fnExactInvertibleCharges", fn := fun _ => fun
  | [d] => { results := [.lit (.bool false)], args := [d] }
  | _ => none }
def FnExactInvertibleChargesWrongFalsely : Prop := fnExactInvertibleChargesRow.holds Try.pinned (OpenSpec.ofChange fnExactInvertibleChargesWrong)

/- THE SECOND FORM. 'bulk': how many values and letters a reading holds, each counted each time it is reached (what is shared counts as often as it is met; a slice's spare places count too). A statement '..UptoSaid' is the law's where the arguments, and the package variables that the reading takes, are together of bulk at most 1048576: NARROWER than '..Said'. Prove '..Said' where nothing that the law and all that it calls make is longer than what came in: it says more and counts as full. Else prove '..UptoSaid'. A law counts once. -/
mutual
def uptoBulk {H : Type} : DataW H → Nat
  | .lit (.string bytes) => bytes.length + 1
  | .lit _ => 1
  | .nil => 1
  | .ptr d => uptoBulk d + 1
  | .slice elems spare => uptoBulkAll elems + uptoBulkAll spare + 1
  | .agg parts => uptoBulkAll parts + 1
  | .iface _ d => uptoBulk d + 1
  | .map entries => uptoBulkEntries entries + 1
  | .held _ => 1
def uptoBulkAll {H : Type} : List (DataW H) → Nat
  | [] => 0
  | d :: r => uptoBulk d + uptoBulkAll r
def uptoBulkEntries {H : Type} : List (Lit × DataW H) → Nat
  | [] => 0
  | x :: r => uptoBulkEntry x + uptoBulkEntries r
def uptoBulkEntry {H : Type} : Lit × DataW H → Nat
  | (.string bytes, d) => bytes.length + uptoBulk d + 1
  | (_, d) => uptoBulk d + 1
 end
def uptoSmall : (H : Type) → List (DataW H) → Bool := fun _ ds => decide (uptoBulkAll ds ≤ 1048576)
def OpenSpec.upto (s : _root_.Go.ChangeSpec) : _root_.Go.OpenSpec := { _root_.Go.OpenSpec.ofChange s with cond := some uptoSmall }

/-- 'laws.FnExactCountBraidings', WHERE WHAT IT READS IS OF BULK AT MOST 1048576: true; the input reads as it did. -/
def fnExactCountBraidingsUptoRow : OpenClaim := { program := "ytafkbnicffieeaa", sum := "c51967ddcb43cb3a53e554d274d20a8900c27e4bca1f6f0f58fd5c0d0903d020", func := "loop.example/g01132/laws.FnExactCountBraidings", spec := "fnExactCountBraidings", unfollowed := true, recurses := true, apart := false, narrowed := true }
def FnExactCountBraidingsUptoSaid : Prop := fnExactCountBraidingsUptoRow.holds Try.pinned (OpenSpec.upto fnExactCountBraidingsSpec)

/-- 'laws.FnExactAddBraidings', WHERE WHAT IT READS IS OF BULK AT MOST 1048576: true; the input reads as it did. -/
def fnExactAddBraidingsUptoRow : OpenClaim := { program := "ytafkbnicffieeaa", sum := "c51967ddcb43cb3a53e554d274d20a8900c27e4bca1f6f0f58fd5c0d0903d020", func := "loop.example/g01132/laws.FnExactAddBraidings", spec := "fnExactAddBraidings", unfollowed := true, recurses := true, apart := false, narrowed := true }
def FnExactAddBraidingsUptoSaid : Prop := fnExactAddBraidingsUptoRow.holds Try.pinned (OpenSpec.upto fnExactAddBraidingsSpec)

/-- 'laws.FnExactIdempotentOf', WHERE WHAT IT READS IS OF BULK AT MOST 1048576: true; the input reads as it did. -/
def fnExactIdempotentOfUptoRow : OpenClaim := { program := "ytafkbnicffieeaa", sum := "c51967ddcb43cb3a53e554d274d20a8900c27e4bca1f6f0f58fd5c0d0903d020", func := "loop.example/g01132/laws.FnExactIdempotentOf", spec := "fnExactIdempotentOf", unfollowed := true, recurses := true, apart := false, narrowed := true }
def FnExactIdempotentOfUptoSaid : Prop := fnExactIdempotentOfUptoRow.holds Try.pinned (OpenSpec.upto fnExactIdempotentOfSpec)

/-- 'laws.FnExactFirstBraiding', WHERE WHAT IT READS IS OF BULK AT MOST 1048576: true; the input reads as it did. -/
def fnExactFirstBraidingUptoRow : OpenClaim := { program := "ytafkbnicffieeaa", sum := "c51967ddcb43cb3a53e554d274d20a8900c27e4bca1f6f0f58fd5c0d0903d020", func := "loop.example/g01132/laws.FnExactFirstBraiding", spec := "fnExactFirstBraiding", unfollowed := true, recurses := true, apart := false, narrowed := true }
def FnExactFirstBraidingUptoSaid : Prop := fnExactFirstBraidingUptoRow.holds Try.pinned (OpenSpec.upto fnExactFirstBraidingSpec)

/-- 'laws.FnExactIsLagrangianVector', WHERE WHAT IT READS IS OF BULK AT MOST 1048576: true; the input reads as it did. -/
def fnExactIsLagrangianVectorUptoRow : OpenClaim := { program := "ytafkbnicffieeaa", sum := "c51967ddcb43cb3a53e554d274d20a8900c27e4bca1f6f0f58fd5c0d0903d020", func := "loop.example/g01132/laws.FnExactIsLagrangianVector", spec := "fnExactIsLagrangianVector", unfollowed := true, recurses := true, apart := false, narrowed := true }
def FnExactIsLagrangianVectorUptoSaid : Prop := fnExactIsLagrangianVectorUptoRow.holds Try.pinned (OpenSpec.upto fnExactIsLagrangianVectorSpec)

/-- 'laws.FnExactSurfaceNumber', WHERE WHAT IT READS IS OF BULK AT MOST 1048576: true; the input reads as it did. -/
def fnExactSurfaceNumberUptoRow : OpenClaim := { program := "ytafkbnicffieeaa", sum := "c51967ddcb43cb3a53e554d274d20a8900c27e4bca1f6f0f58fd5c0d0903d020", func := "loop.example/g01132/laws.FnExactSurfaceNumber", spec := "fnExactSurfaceNumber", unfollowed := true, recurses := true, apart := false, narrowed := true }
def FnExactSurfaceNumberUptoSaid : Prop := fnExactSurfaceNumberUptoRow.holds Try.pinned (OpenSpec.upto fnExactSurfaceNumberSpec)

/-- 'laws.FnExactIndicatorOf', WHERE WHAT IT READS IS OF BULK AT MOST 1048576: true; the input reads as it did. -/
def fnExactIndicatorOfUptoRow : OpenClaim := { program := "ytafkbnicffieeaa", sum := "c51967ddcb43cb3a53e554d274d20a8900c27e4bca1f6f0f58fd5c0d0903d020", func := "loop.example/g01132/laws.FnExactIndicatorOf", spec := "fnExactIndicatorOf", unfollowed := true, recurses := true, apart := false, narrowed := true }
def FnExactIndicatorOfUptoSaid : Prop := fnExactIndicatorOfUptoRow.holds Try.pinned (OpenSpec.upto fnExactIndicatorOfSpec)

/-- 'laws.FnExactPuncturedTorus', WHERE WHAT IT READS IS OF BULK AT MOST 1048576: true; the input reads as it did. -/
def fnExactPuncturedTorusUptoRow : OpenClaim := { program := "ytafkbnicffieeaa", sum := "c51967ddcb43cb3a53e554d274d20a8900c27e4bca1f6f0f58fd5c0d0903d020", func := "loop.example/g01132/laws.FnExactPuncturedTorus", spec := "fnExactPuncturedTorus", unfollowed := true, recurses := true, apart := false, narrowed := true }
def FnExactPuncturedTorusUptoSaid : Prop := fnExactPuncturedTorusUptoRow.holds Try.pinned (OpenSpec.upto fnExactPuncturedTorusSpec)

/-- 'laws.FnExactLensNumber', WHERE WHAT IT READS IS OF BULK AT MOST 1048576: true; the input reads as it did. -/
def fnExactLensNumberUptoRow : OpenClaim := { program := "ytafkbnicffieeaa", sum := "c51967ddcb43cb3a53e554d274d20a8900c27e4bca1f6f0f58fd5c0d0903d020", func := "loop.example/g01132/laws.FnExactLensNumber", spec := "fnExactLensNumber", unfollowed := true, recurses := true, apart := false, narrowed := true }
def FnExactLensNumberUptoSaid : Prop := fnExactLensNumberUptoRow.holds Try.pinned (OpenSpec.upto fnExactLensNumberSpec)

/-- 'laws.FnExactIsInvariant', WHERE WHAT IT READS IS OF BULK AT MOST 1048576: true; the input reads as it did. -/
def fnExactIsInvariantUptoRow : OpenClaim := { program := "ytafkbnicffieeaa", sum := "c51967ddcb43cb3a53e554d274d20a8900c27e4bca1f6f0f58fd5c0d0903d020", func := "loop.example/g01132/laws.FnExactIsInvariant", spec := "fnExactIsInvariant", unfollowed := true, recurses := true, apart := false, narrowed := true }
def FnExactIsInvariantUptoSaid : Prop := fnExactIsInvariantUptoRow.holds Try.pinned (OpenSpec.upto fnExactIsInvariantSpec)

/-- 'laws.FnExactInvertibleCharges', WHERE WHAT IT READS IS OF BULK AT MOST 1048576: true; the input reads as it did. -/
def fnExactInvertibleChargesUptoRow : OpenClaim := { program := "ytafkbnicffieeaa", sum := "c51967ddcb43cb3a53e554d274d20a8900c27e4bca1f6f0f58fd5c0d0903d020", func := "loop.example/g01132/laws.FnExactInvertibleCharges", spec := "fnExactInvertibleCharges", unfollowed := true, recurses := true, apart := false, narrowed := true }
def FnExactInvertibleChargesUptoSaid : Prop := fnExactInvertibleChargesUptoRow.holds Try.pinned (OpenSpec.upto fnExactInvertibleChargesSpec)

end Rows
end Go.Proofs.Ytafkbnicffieeaa
