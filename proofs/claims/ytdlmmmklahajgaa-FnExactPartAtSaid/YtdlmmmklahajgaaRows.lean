/-
  No cell of these rows narrows 'for every input' (looked for: loops, veiled, ifaces, maps, wideKeys, modest, calm, conditions, laid).
  DERIVED. THE GIVEN ROWS OF THIS SEAT. 4 by the template 'for every input the law returns true; each argument reads behind the call as it read before'; 0 by the template 'total and deterministic' (their statements: YtdlmmmklahajgaaTotals.lean).
  GIVEN WITH THE SEED: the statements are not yours to turn. If you find one false, say at which input.
  Laid BY PROGRAM, IN A SANDBOX (cutbox-rows.mjs): the forced cells as the released guide's own fill.sh prints them over the translation 9aaec9013527ad21… (all of the seat's roots in one cut). By AI agents, Wed Nov 11 2026. No macro, syntax, notation, axiom, sorry.
-/
import Derived.Test.YtdlmmmklahajgaaChecked
import GoSem.Claim
import GoSem.ClaimJoined
import GoSem.ClaimMapViews
import Derived.JoinedTies
import Derived.KernelRfl
namespace Go.Proofs.Ytdlmmmklahajgaa
/- THE CELL 'sum', in the pinned program and in every row, IS THE sha256 OF THE DUMP (.gsa) THAT YtdlmmmklahajgaaProg.lean LOADS. Nothing in Lean hashes anything: it is a label: what it is worth is what the hold of that sum in a sandbox is worth. -/
noncomputable def Try.pinned : Pinned := { name := "ytdlmmmklahajgaa", sum := "9aaec9013527ad21b75bb0ad7a7f1e9b5545cb2e09b3762f040427b5c5f8fa93", checked := Try.checked }
namespace Rows
def none {H : Type} : Left H := { results := [], args := [] }

/-- 'laws.FnExactSumOfActions': WHATEVER THE INPUT: true; the input reads as it did. -/
def fnExactSumOfActionsSpec : ChangeSpec := { name := "fnExactSumOfActions", fn := fun _ => fun
  | [d1, d2, d3] => { results := [.lit (.bool true)], args := [d1, d2, d3] }
  | _ => none }
def fnExactSumOfActionsRow : OpenClaim := { program := "ytdlmmmklahajgaa", sum := "9aaec9013527ad21b75bb0ad7a7f1e9b5545cb2e09b3762f040427b5c5f8fa93", func := "loop.example/g01132/laws.FnExactSumOfActions", spec := "fnExactSumOfActions", unfollowed := true, recurses := true, apart := false }
def FnExactSumOfActionsSaid : Prop := fnExactSumOfActionsRow.holds Try.pinned (OpenSpec.ofChange fnExactSumOfActionsSpec)

/-- ITS FALSE NEIGHBOUR: 'it returns false'. Refute it at one input. -/
def fnExactSumOfActionsWrong : ChangeSpec := { name := "fnExactSumOfActions", fn := fun _ => fun
  | [d1, d2, d3] => { results := [.lit (.bool false)], args := [d1, d2, d3] }
  | _ => none }
def FnExactSumOfActionsWrongFalsely : Prop := fnExactSumOfActionsRow.holds Try.pinned (OpenSpec.ofChange fnExactSumOfActionsWrong)

/-- 'laws.FnExactIsIndecomposable': WHATEVER THE INPUT: true; the input reads as it did. -/
def fnExactIsIndecomposableSpec : ChangeSpec := { name := "fnExactIsIndecomposable", fn := fun _ => fun
  | [d1, d2] => { results := [.lit (.bool true)], args := [d1, d2] }
  | _ => none }
def fnExactIsIndecomposableRow : OpenClaim := { program := "ytdlmmmklahajgaa", sum := "9aaec9013527ad21b75bb0ad7a7f1e9b5545cb2e09b3762f040427b5c5f8fa93", func := "loop.example/g01132/laws.FnExactIsIndecomposable", spec := "fnExactIsIndecomposable", unfollowed := true, recurses := true, apart := false }
def FnExactIsIndecomposableSaid : Prop := fnExactIsIndecomposableRow.holds Try.pinned (OpenSpec.ofChange fnExactIsIndecomposableSpec)

/-- ITS FALSE NEIGHBOUR: 'it returns false'. Refute it at one input. -/
def fnExactIsIndecomposableWrong : ChangeSpec := { name := "fnExactIsIndecomposable", fn := fun _ => fun
  | [d1, d2] => { results := [.lit (.bool false)], args := [d1, d2] }
  | _ => none }
def FnExactIsIndecomposableWrongFalsely : Prop := fnExactIsIndecomposableRow.holds Try.pinned (OpenSpec.ofChange fnExactIsIndecomposableWrong)

/-- 'laws.FnExactPartsOfAction': WHATEVER THE INPUT: true; the input reads as it did. -/
def fnExactPartsOfActionSpec : ChangeSpec := { name := "fnExactPartsOfAction", fn := fun _ => fun
  | [d1, d2] => { results := [.lit (.bool true)], args := [d1, d2] }
  | _ => none }
def fnExactPartsOfActionRow : OpenClaim := { program := "ytdlmmmklahajgaa", sum := "9aaec9013527ad21b75bb0ad7a7f1e9b5545cb2e09b3762f040427b5c5f8fa93", func := "loop.example/g01132/laws.FnExactPartsOfAction", spec := "fnExactPartsOfAction", unfollowed := true, recurses := true, apart := false }
def FnExactPartsOfActionSaid : Prop := fnExactPartsOfActionRow.holds Try.pinned (OpenSpec.ofChange fnExactPartsOfActionSpec)

/-- ITS FALSE NEIGHBOUR: 'it returns false'. Refute it at one input. -/
def fnExactPartsOfActionWrong : ChangeSpec := { name := "fnExactPartsOfAction", fn := fun _ => fun
  | [d1, d2] => { results := [.lit (.bool false)], args := [d1, d2] }
  | _ => none }
def FnExactPartsOfActionWrongFalsely : Prop := fnExactPartsOfActionRow.holds Try.pinned (OpenSpec.ofChange fnExactPartsOfActionWrong)

/-- 'laws.FnExactPartAt': WHATEVER THE INPUT: true; the input reads as it did. -/
def fnExactPartAtSpec : ChangeSpec := { name := "fnExactPartAt", fn := fun _ => fun
  | [d1, d2, d3] => { results := [.lit (.bool true)], args := [d1, d2, d3] }
  | _ => none }
def fnExactPartAtRow : OpenClaim := { program := "ytdlmmmklahajgaa", sum := "9aaec9013527ad21b75bb0ad7a7f1e9b5545cb2e09b3762f040427b5c5f8fa93", func := "loop.example/g01132/laws.FnExactPartAt", spec := "fnExactPartAt", unfollowed := true, recurses := true, apart := false }
def FnExactPartAtSaid : Prop := fnExactPartAtRow.holds Try.pinned (OpenSpec.ofChange fnExactPartAtSpec)

/-- ITS FALSE NEIGHBOUR: 'it returns false'. Refute it at one input. -/
def fnExactPartAtWrong : ChangeSpec := { name := "fnExactPartAt", fn := fun _ => fun
  | [d1, d2, d3] => { results := [.lit (.bool false)], args := [d1, d2, d3] }
  | _ => none }
def FnExactPartAtWrongFalsely : Prop := fnExactPartAtRow.holds Try.pinned (OpenSpec.ofChange fnExactPartAtWrong)

/- THE SECOND FORM. 'bulk': how many values and letters a reading holds, each counted each time it is reached (what is shared counts as often as it is met; a slice's spare places count too). A statement '..UptoSaid' is the law's where the arguments, and the package variables that the reading takes, are together of bulk at most 1048576: NARROWER than '..Said'. Prove '..Said' where nothing that the law and all that it calls make is longer than what came in: it says more and counts as full. Else prove '..UptoSaid'. A law counts once. -/
mutual
def uptoBulk {H : Type} : DataW H → Nat
  | .lit (.string bytes) => bytes.length + 1
  | .lit _ => 1
  | .nil => 1
  | .ptr d => uptoBulk d + 1
  | .slice elems spare => uptoBulkAll elems + uptoBulkAll spare + 1
  | .agg parts => uptoBulkAll parts + 1
  | .iface _ d => uptoBulk d + 1
  | .map entries => uptoBulkEntries entries + 1
  | .held _ => 1
def uptoBulkAll {H : Type} : List (DataW H) → Nat
  | [] => 0
  | d :: r => uptoBulk d + uptoBulkAll r
def uptoBulkEntries {H : Type} : List (Lit × DataW H) → Nat
  | [] => 0
  | x :: r => uptoBulkEntry x + uptoBulkEntries r
def uptoBulkEntry {H : Type} : Lit × DataW H → Nat
  | (.string bytes, d) => bytes.length + uptoBulk d + 1
  | (_, d) => uptoBulk d + 1
 end
def uptoSmall : (H : Type) → List (DataW H) → Bool := fun _ ds => decide (uptoBulkAll ds ≤ 1048576)
def OpenSpec.upto (s : _root_.Go.ChangeSpec) : _root_.Go.OpenSpec := { _root_.Go.OpenSpec.ofChange s with cond := some uptoSmall }

/-- 'laws.FnExactSumOfActions', WHERE WHAT IT READS IS OF BULK AT MOST 1048576: true; the input reads as it did. -/
def fnExactSumOfActionsUptoRow : OpenClaim := { program := "ytdlmmmklahajgaa", sum := "9aaec9013527ad21b75bb0ad7a7f1e9b5545cb2e09b3762f040427b5c5f8fa93", func := "loop.example/g01132/laws.FnExactSumOfActions", spec := "fnExactSumOfActions", unfollowed := true, recurses := true, apart := false, narrowed := true }
def FnExactSumOfActionsUptoSaid : Prop := fnExactSumOfActionsUptoRow.holds Try.pinned (OpenSpec.upto fnExactSumOfActionsSpec)

/-- 'laws.FnExactIsIndecomposable', WHERE WHAT IT READS IS OF BULK AT MOST 1048576: true; the input reads as it did. -/
def fnExactIsIndecomposableUptoRow : OpenClaim := { program := "ytdlmmmklahajgaa", sum := "9aaec9013527ad21b75bb0ad7a7f1e9b5545cb2e09b3762f040427b5c5f8fa93", func := "loop.example/g01132/laws.FnExactIsIndecomposable", spec := "fnExactIsIndecomposable", unfollowed := true, recurses := true, apart := false, narrowed := true }
def FnExactIsIndecomposableUptoSaid : Prop := fnExactIsIndecomposableUptoRow.holds Try.pinned (OpenSpec.upto fnExactIsIndecomposableSpec)

/-- 'laws.FnExactPartsOfAction', WHERE WHAT IT READS IS OF BULK AT MOST 1048576: true; the input reads as it did. -/
def fnExactPartsOfActionUptoRow : OpenClaim := { program := "ytdlmmmklahajgaa", sum := "9aaec9013527ad21b75bb0ad7a7f1e9b5545cb2e09b3762f040427b5c5f8fa93", func := "loop.example/g01132/laws.FnExactPartsOfAction", spec := "fnExactPartsOfAction", unfollowed := true, recurses := true, apart := false, narrowed := true }
def FnExactPartsOfActionUptoSaid : Prop := fnExactPartsOfActionUptoRow.holds Try.pinned (OpenSpec.upto fnExactPartsOfActionSpec)

/-- 'laws.FnExactPartAt', WHERE WHAT IT READS IS OF BULK AT MOST 1048576: true; the input reads as it did. -/
def fnExactPartAtUptoRow : OpenClaim := { program := "ytdlmmmklahajgaa", sum := "9aaec9013527ad21b75bb0ad7a7f1e9b5545cb2e09b3762f040427b5c5f8fa93", func := "loop.example/g01132/laws.FnExactPartAt", spec := "fnExactPartAt", unfollowed := true, recurses := true, apart := false, narrowed := true }
def FnExactPartAtUptoSaid : Prop := fnExactPartAtUptoRow.holds Try.pinned (OpenSpec.upto fnExactPartAtSpec)

end Rows
end Go.Proofs.Ytdlmmmklahajgaa
