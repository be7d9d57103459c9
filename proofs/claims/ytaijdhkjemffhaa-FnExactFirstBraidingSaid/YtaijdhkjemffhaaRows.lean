/-
  No cell of these rows narrows 'for every input' (looked for: loops, veiled, ifaces, maps, wideKeys, modest, calm, conditions, laid).
  DERIVED. THE GIVEN ROWS OF THIS SEAT. 2 by the template 'for every input the law returns true; each argument reads behind the call as it read before'; 0 by the template 'total and deterministic' (their statements: YtaijdhkjemffhaaTotals.lean).
  GIVEN WITH THE SEED: the statements are not yours to turn. If you find one false, say at which input.
  Laid BY PROGRAM, IN A SANDBOX (cutbox-rows.mjs): the forced cells as the released guide's own fill.sh prints them over the translation b7440ae081f41dfc… (all of the seat's roots in one cut). By AI agents, Wed Nov 11 2026. No macro, syntax, notation, axiom, sorry.
-/
import Derived.Test.YtaijdhkjemffhaaChecked
import GoSem.Claim
import GoSem.ClaimJoined
import GoSem.ClaimMapViews
import Derived.JoinedTies
import Derived.KernelRfl
namespace Go.Proofs.Ytaijdhkjemffhaa
/- THE CELL 'sum', in the pinned program and in every row, IS THE sha256 OF THE DUMP (.gsa) THAT YtaijdhkjemffhaaProg.lean LOADS. Nothing in Lean hashes anything: it is a label: what it is worth is what the hold of that sum in a sandbox is worth. -/
noncomputable def Try.pinned : Pinned := { name := "ytaijdhkjemffhaa", sum := "b7440ae081f41dfc4526f1b9ca9b25126d0b7dfea8a92a9b3c333231ef7ea3bf", checked := Try.checked }
namespace Rows
def none {H : Type} : Left H := { results := [], args := [] }

/-- 'laws.FnExactCountBraidings': WHATEVER THE INPUT: true; the input reads as it did. -/
def fnExactCountBraidingsSpec : ChangeSpec := { name := "fnExactCountBraidings", fn := fun _ => fun
  | [d] => { results := [.lit (.bool true)], args := [d] }
  | _ => none }
def fnExactCountBraidingsRow : OpenClaim := { program := "ytaijdhkjemffhaa", sum := "b7440ae081f41dfc4526f1b9ca9b25126d0b7dfea8a92a9b3c333231ef7ea3bf", func := "loop.example/g01132/laws.FnExactCountBraidings", spec := "fnExactCountBraidings", unfollowed := true, recurses := true, apart := false }
def FnExactCountBraidingsSaid : Prop := fnExactCountBraidingsRow.holds Try.pinned (OpenSpec.ofChange fnExactCountBraidingsSpec)

/-- ITS FALSE NEIGHBOUR: 'it returns false'. Refute it at one input. -/
def fnExactCountBraidingsWrong : ChangeSpec := { name := "fnExactCountBraidings", fn := fun _ => fun
  | [d] => { results := [.lit (.bool false)], args := [d] }
  | _ => none }
def FnExactCountBraidingsWrongFalsely : Prop := fnExactCountBraidingsRow.holds Try.pinned (OpenSpec.ofChange fnExactCountBraidingsWrong)

/-- 'laws.FnExactFirstBraiding': WHATEVER THE INPUT: true; the input reads as it did. -/
def fnExactFirstBraidingSpec : ChangeSpec := { name := "fnExactFirstBraiding", fn := fun _ => fun
  | [d] => { results := [.lit (.bool true)], args := [d] }
  | _ => none }
def fnExactFirstBraidingRow : OpenClaim := { program := "ytaijdhkjemffhaa", sum := "b7440ae081f41dfc4526f1b9ca9b25126d0b7dfea8a92a9b3c333231ef7ea3bf", func := "loop.example/g01132/laws.FnExactFirstBraiding", spec := "fnExactFirstBraiding", unfollowed := true, recurses := true, apart := false }
def FnExactFirstBraidingSaid : Prop := fnExactFirstBraidingRow.holds Try.pinned (OpenSpec.ofChange fnExactFirstBraidingSpec)

/-- ITS FALSE NEIGHBOUR: 'it returns false'. Refute it at one input. -/
def fnExactFirstBraidingWrong : ChangeSpec := { name := "fnExactFirstBraiding", fn := fun _ => fun
  | [d] => { results := [.lit (.bool false)], args := [d] }
  | _ => none }
def FnExactFirstBraidingWrongFalsely : Prop := fnExactFirstBraidingRow.holds Try.pinned (OpenSpec.ofChange fnExactFirstBraidingWrong)

/- THE SECOND FORM. 'bulk': how many values and letters a reading holds, each counted each time it is reached (what is shared counts as often as it is met; a slice's spare places count too). A statement '..UptoSaid' is the law's where the arguments, and the package variables that the reading takes, are together of bulk at most 1048576: NARROWER than '..Said'. Prove '..Said' where nothing that the law and all that it calls make is longer than what came in: it says more and counts as full. Else prove '..UptoSaid'. A law counts once. -/
mutual
def uptoBulk {H : Type} : DataW H → Nat
  | .lit (.string bytes) => bytes.length + 1
  | .lit _ => 1
  | .nil => 1
  | .ptr d => uptoBulk d + 1
  | .slice elems spare => uptoBulkAll elems + uptoBulkAll spare + 1
  | .agg parts => uptoBulkAll parts + 1
  | .iface _ d => uptoBulk d + 1
  | .map entries => uptoBulkEntries entries + 1
  | .held _ => 1
def uptoBulkAll {H : Type} : List (DataW H) → Nat
  | [] => 0
  | d :: r => uptoBulk d + uptoBulkAll r
def uptoBulkEntries {H : Type} : List (Lit × DataW H) → Nat
  | [] => 0
  | x :: r => uptoBulkEntry x + uptoBulkEntries r
def uptoBulkEntry {H : Type} : Lit × DataW H → Nat
  | (.string bytes, d) => bytes.length + uptoBulk d + 1
  | (_, d) => uptoBulk d + 1
 end
def uptoSmall : (H : Type) → List (DataW H) → Bool := fun _ ds => decide (uptoBulkAll ds ≤ 1048576)
def OpenSpec.upto (s : _root_.Go.ChangeSpec) : _root_.Go.OpenSpec := { _root_.Go.OpenSpec.ofChange s with cond := some uptoSmall }

/-- 'laws.FnExactCountBraidings', WHERE WHAT IT READS IS OF BULK AT MOST 1048576: true; the input reads as it did. -/
def fnExactCountBraidingsUptoRow : OpenClaim := { program := "ytaijdhkjemffhaa", sum := "b7440ae081f41dfc4526f1b9ca9b25126d0b7dfea8a92a9b3c333231ef7ea3bf", func := "loop.example/g01132/laws.FnExactCountBraidings", spec := "fnExactCountBraidings", unfollowed := true, recurses := true, apart := false, narrowed := true }
def FnExactCountBraidingsUptoSaid : Prop := fnExactCountBraidingsUptoRow.holds Try.pinned (OpenSpec.upto fnExactCountBraidingsSpec)

/-- 'laws.FnExactFirstBraiding', WHERE WHAT IT READS IS OF BULK AT MOST 1048576: true; the input reads as it did. -/
def fnExactFirstBraidingUptoRow : OpenClaim := { program := "ytaijdhkjemffhaa", sum := "b7440ae081f41dfc4526f1b9ca9b25126d0b7dfea8a92a9b3c333231ef7ea3bf", func := "loop.example/g01132/laws.FnExactFirstBraiding", spec := "fnExactFirstBraiding", unfollowed := true, recurses := true, apart := false, narrowed := true }
def FnExactFirstBraidingUptoSaid : Prop := fnExactFirstBraidingUptoRow.holds Try.pinned (OpenSpec.upto fnExactFirstBraidingSpec)

end Rows
end Go.Proofs.Ytaijdhkjemffhaa
