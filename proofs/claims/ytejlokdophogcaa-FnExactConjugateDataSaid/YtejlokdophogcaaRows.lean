/-
  No cell of these rows narrows 'for every input' (looked for: loops, veiled, ifaces, maps, wideKeys, modest, calm, conditions, laid).
  DERIVED. THE GIVEN ROWS OF THIS SEAT. 12 by the template 'for every input the law returns true; each argument reads behind the call as it read before'; 0 by the template 'total and deterministic' (their statements: YtejlokdophogcaaTotals.lean).
  GIVEN WITH THE SEED: the statements are not yours to turn. If you find one false, say at which input.
  Laid BY PROGRAM, IN A SANDBOX (cutbox-rows.mjs): the forced cells as the released guide's own fill.sh prints them over the translation 4dd28e73849bd7c2… (all of the seat's roots in one cut). By AI agents, Wed Nov 11 2026. No macro, syntax, notation, axiom, sorry.
-/
import Derived.Test.YtejlokdophogcaaChecked
import GoSem.Claim
import GoSem.ClaimJoined
import GoSem.ClaimMapViews
import Derived.JoinedTies
import Derived.KernelRfl
namespace Go.Proofs.Ytejlokdophogcaa
/- THE CELL 'sum', in the pinned program and in every row, IS THE sha256 OF THE DUMP (.gsa) THAT YtejlokdophogcaaProg.lean LOADS. Nothing in Lean hashes anything: it is a label: what it is worth is what the hold of that sum in a sandbox is worth. -/
noncomputable def Try.pinned : Pinned := { name := "ytejlokdophogcaa", sum := "4dd28e73849bd7c2c799ce01dbc1b30fa716c30ee0d64674bc62653d6a29cd38", checked := Try.checked }
namespace Rows
def none {H : Type} : Left H := { results := [], args := [] }

/-- 'laws.FnExactIsData': WHATEVER THE INPUT: true; the input reads as it did. -/
def fnExactIsDataSpec : ChangeSpec := { name := "fnExactIsData", fn := fun _ => fun
  | [d] => { results := [.lit (.bool true)], args := [d] }
  | _ => none }
def fnExactIsDataRow : OpenClaim := { program := "ytejlokdophogcaa", sum := "4dd28e73849bd7c2c799ce01dbc1b30fa716c30ee0d64674bc62653d6a29cd38", func := "loop.example/g01132/laws.FnExactIsData", spec := "fnExactIsData", unfollowed := true, recurses := true, apart := false }
def FnExactIsDataSaid : Prop := fnExactIsDataRow.holds Try.pinned (OpenSpec.ofChange fnExactIsDataSpec)

/-- ITS FALSE NEIGHBOUR: 'it returns false'. Refute it at one input. -/
def fnExactIsDataWrong : ChangeSpec := { name := "fnExactIsData", fn := fun _ => fun
  | [d] => { results := [.lit (.bool false)], args := [d] }
  | _ => none }
def FnExactIsDataWrongFalsely : Prop := fnExactIsDataRow.holds Try.pinned (OpenSpec.ofChange fnExactIsDataWrong)

/-- 'laws.FnExactWholeOf': WHATEVER THE INPUT: true; the input reads as it did. -/
def fnExactWholeOfSpec : ChangeSpec := { name := "fnExactWholeOf", fn := fun _ => fun
  | [d] => { results := [.lit (.bool true)], args := [d] }
  | _ => none }
def fnExactWholeOfRow : OpenClaim := { program := "ytejlokdophogcaa", sum := "4dd28e73849bd7c2c799ce01dbc1b30fa716c30ee0d64674bc62653d6a29cd38", func := "loop.example/g01132/laws.FnExactWholeOf", spec := "fnExactWholeOf", unfollowed := true, recurses := true, apart := false }
def FnExactWholeOfSaid : Prop := fnExactWholeOfRow.holds Try.pinned (OpenSpec.ofChange fnExactWholeOfSpec)

/-- ITS FALSE NEIGHBOUR: 'it returns false'. Refute it at one input. -/
def fnExactWholeOfWrong : ChangeSpec := { name := "fnExactWholeOf", fn := fun _ => fun
  | [d] => { results := [.lit (.bool false)], args := [d] }
  | _ => none }
def FnExactWholeOfWrongFalsely : Prop := fnExactWholeOfRow.holds Try.pinned (OpenSpec.ofChange fnExactWholeOfWrong)

/-- 'laws.FnExactDataFault': WHATEVER THE INPUT: true; the input reads as it did. -/
def fnExactDataFaultSpec : ChangeSpec := { name := "fnExactDataFault", fn := fun _ => fun
  | [d] => { results := [.lit (.bool true)], args := [d] }
  | _ => none }
def fnExactDataFaultRow : OpenClaim := { program := "ytejlokdophogcaa", sum := "4dd28e73849bd7c2c799ce01dbc1b30fa716c30ee0d64674bc62653d6a29cd38", func := "loop.example/g01132/laws.FnExactDataFault", spec := "fnExactDataFault", unfollowed := true, recurses := true, apart := false }
def FnExactDataFaultSaid : Prop := fnExactDataFaultRow.holds Try.pinned (OpenSpec.ofChange fnExactDataFaultSpec)

/-- ITS FALSE NEIGHBOUR: 'it returns false'. Refute it at one input. -/
def fnExactDataFaultWrong : ChangeSpec := { name := "fnExactDataFault", fn := fun _ => fun
  | [d] => { results := [.lit (.bool false)], args := [d] }
  | _ => none }
def FnExactDataFaultWrongFalsely : Prop := fnExactDataFaultRow.holds Try.pinned (OpenSpec.ofChange fnExactDataFaultWrong)

/-- 'laws.FnExactCentralNumber': WHATEVER THE INPUT: true; the input reads as it did. -/
def fnExactCentralNumberSpec : ChangeSpec := { name := "fnExactCentralNumber", fn := fun _ => fun
  | [d] => { results := [.lit (.bool true)], args := [d] }
  | _ => none }
def fnExactCentralNumberRow : OpenClaim := { program := "ytejlokdophogcaa", sum := "4dd28e73849bd7c2c799ce01dbc1b30fa716c30ee0d64674bc62653d6a29cd38", func := "loop.example/g01132/laws.FnExactCentralNumber", spec := "fnExactCentralNumber", unfollowed := true, recurses := true, apart := false }
def FnExactCentralNumberSaid : Prop := fnExactCentralNumberRow.holds Try.pinned (OpenSpec.ofChange fnExactCentralNumberSpec)

/-- ITS FALSE NEIGHBOUR: 'it returns false'. Refute it at one input. -/
def fnExactCentralNumberWrong : ChangeSpec := { name := "fnExactCentralNumber", fn := fun _ => fun
  | [d] => { results := [.lit (.bool false)], args := [d] }
  | _ => none }
def FnExactCentralNumberWrongFalsely : Prop := fnExactCentralNumberRow.holds Try.pinned (OpenSpec.ofChange fnExactCentralNumberWrong)

/-- 'laws.FnExactMonodromyOf': WHATEVER THE INPUT: true; the input reads as it did. -/
def fnExactMonodromyOfSpec : ChangeSpec := { name := "fnExactMonodromyOf", fn := fun _ => fun
  | [d1, d2, d3] => { results := [.lit (.bool true)], args := [d1, d2, d3] }
  | _ => none }
def fnExactMonodromyOfRow : OpenClaim := { program := "ytejlokdophogcaa", sum := "4dd28e73849bd7c2c799ce01dbc1b30fa716c30ee0d64674bc62653d6a29cd38", func := "loop.example/g01132/laws.FnExactMonodromyOf", spec := "fnExactMonodromyOf", unfollowed := true, recurses := true, apart := false }
def FnExactMonodromyOfSaid : Prop := fnExactMonodromyOfRow.holds Try.pinned (OpenSpec.ofChange fnExactMonodromyOfSpec)

/-- ITS FALSE NEIGHBOUR: 'it returns false'. Refute it at one input. -/
def fnExactMonodromyOfWrong : ChangeSpec := { name := "fnExactMonodromyOf", fn := fun _ => fun
  | [d1, d2, d3] => { results := [.lit (.bool false)], args := [d1, d2, d3] }
  | _ => none }
def FnExactMonodromyOfWrongFalsely : Prop := fnExactMonodromyOfRow.holds Try.pinned (OpenSpec.ofChange fnExactMonodromyOfWrong)

/-- 'laws.FnExactGaussSum': WHATEVER THE INPUT: true; the input reads as it did. -/
def fnExactGaussSumSpec : ChangeSpec := { name := "fnExactGaussSum", fn := fun _ => fun
  | [d1, d2] => { results := [.lit (.bool true)], args := [d1, d2] }
  | _ => none }
def fnExactGaussSumRow : OpenClaim := { program := "ytejlokdophogcaa", sum := "4dd28e73849bd7c2c799ce01dbc1b30fa716c30ee0d64674bc62653d6a29cd38", func := "loop.example/g01132/laws.FnExactGaussSum", spec := "fnExactGaussSum", unfollowed := true, recurses := true, apart := false }
def FnExactGaussSumSaid : Prop := fnExactGaussSumRow.holds Try.pinned (OpenSpec.ofChange fnExactGaussSumSpec)

/-- ITS FALSE NEIGHBOUR: 'it returns false'. Refute it at one input. -/
def fnExactGaussSumWrong : ChangeSpec := { name := "fnExactGaussSum", fn := fun _ => fun
  | [d1, d2] => { results := [.lit (.bool false)], args := [d1, d2] }
  | _ => none }
def FnExactGaussSumWrongFalsely : Prop := fnExactGaussSumRow.holds Try.pinned (OpenSpec.ofChange fnExactGaussSumWrong)

/-- 'laws.FnExactIsInvertibleCharge': WHATEVER THE INPUT: true; the input reads as it did. -/
def fnExactIsInvertibleChargeSpec : ChangeSpec := { name := "fnExactIsInvertibleCharge", fn := fun _ => fun
  | [d1, d2] => { results := [.lit (.bool true)], args := [d1, d2] }
  | _ => none }
def fnExactIsInvertibleChargeRow : OpenClaim := { program := "ytejlokdophogcaa", sum := "4dd28e73849bd7c2c799ce01dbc1b30fa716c30ee0d64674bc62653d6a29cd38", func := "loop.example/g01132/laws.FnExactIsInvertibleCharge", spec := "fnExactIsInvertibleCharge", unfollowed := true, recurses := true, apart := false }
def FnExactIsInvertibleChargeSaid : Prop := fnExactIsInvertibleChargeRow.holds Try.pinned (OpenSpec.ofChange fnExactIsInvertibleChargeSpec)

/-- ITS FALSE NEIGHBOUR: 'it returns false'. Refute it at one input. -/
def fnExactIsInvertibleChargeWrong : ChangeSpec := { name := "fnExactIsInvertibleCharge", fn := fun _ => fun
  | [d1, d2] => { results := [.lit (.bool false)], args := [d1, d2] }
  | _ => none }
def FnExactIsInvertibleChargeWrongFalsely : Prop := fnExactIsInvertibleChargeRow.holds Try.pinned (OpenSpec.ofChange fnExactIsInvertibleChargeWrong)

/-- 'laws.FnExactConjugationOf': WHATEVER THE INPUT: true; the input reads as it did. -/
def fnExactConjugationOfSpec : ChangeSpec := { name := "fnExactConjugationOf", fn := fun _ => fun
  | [d] => { results := [.lit (.bool true)], args := [d] }
  | _ => none }
def fnExactConjugationOfRow : OpenClaim := { program := "ytejlokdophogcaa", sum := "4dd28e73849bd7c2c799ce01dbc1b30fa716c30ee0d64674bc62653d6a29cd38", func := "loop.example/g01132/laws.FnExactConjugationOf", spec := "fnExactConjugationOf", unfollowed := true, recurses := true, apart := false }
def FnExactConjugationOfSaid : Prop := fnExactConjugationOfRow.holds Try.pinned (OpenSpec.ofChange fnExactConjugationOfSpec)

/-- ITS FALSE NEIGHBOUR: 'it returns false'. Refute it at one input. -/
def fnExactConjugationOfWrong : ChangeSpec := { name := "fnExactConjugationOf", fn := fun _ => fun
  | [d] => { results := [.lit (.bool false)], args := [d] }
  | _ => none }
def FnExactConjugationOfWrongFalsely : Prop := fnExactConjugationOfRow.holds Try.pinned (OpenSpec.ofChange fnExactConjugationOfWrong)

/-- 'laws.FnExactDimensionsOf': WHATEVER THE INPUT: true; the input reads as it did. -/
def fnExactDimensionsOfSpec : ChangeSpec := { name := "fnExactDimensionsOf", fn := fun _ => fun
  | [d] => { results := [.lit (.bool true)], args := [d] }
  | _ => none }
def fnExactDimensionsOfRow : OpenClaim := { program := "ytejlokdophogcaa", sum := "4dd28e73849bd7c2c799ce01dbc1b30fa716c30ee0d64674bc62653d6a29cd38", func := "loop.example/g01132/laws.FnExactDimensionsOf", spec := "fnExactDimensionsOf", unfollowed := true, recurses := true, apart := false }
def FnExactDimensionsOfSaid : Prop := fnExactDimensionsOfRow.holds Try.pinned (OpenSpec.ofChange fnExactDimensionsOfSpec)

/-- ITS FALSE NEIGHBOUR: 'it returns false'. Refute it at one input. -/
def fnExactDimensionsOfWrong : ChangeSpec := { name := "fnExactDimensionsOf", fn := fun _ => fun
  | [d] => { results := [.lit (.bool false)], args := [d] }
  | _ => none }
def FnExactDimensionsOfWrongFalsely : Prop := fnExactDimensionsOfRow.holds Try.pinned (OpenSpec.ofChange fnExactDimensionsOfWrong)

/-- 'laws.FnExactTwistOrder': WHATEVER THE INPUT: true; the input reads as it did. -/
def fnExactTwistOrderSpec : ChangeSpec := { name := "fnExactTwistOrder", fn := fun _ => fun
  | [d] => { results := [.lit (.bool true)], args := [d] }
  | _ => none }
def fnExactTwistOrderRow : OpenClaim := { program := "ytejlokdophogcaa", sum := "4dd28e73849bd7c2c799ce01dbc1b30fa716c30ee0d64674bc62653d6a29cd38", func := "loop.example/g01132/laws.FnExactTwistOrder", spec := "fnExactTwistOrder", unfollowed := true, recurses := true, apart := false }
def FnExactTwistOrderSaid : Prop := fnExactTwistOrderRow.holds Try.pinned (OpenSpec.ofChange fnExactTwistOrderSpec)

/-- ITS FALSE NEIGHBOUR: 'it returns false'. Refute it at one input. -/
def fnExactTwistOrderWrong : ChangeSpec := { name := "fnExactTwistOrder", fn := fun _ => fun
  | [d] => { results := [.lit (.bool false)], args := [d] }
  | _ => none }
def FnExactTwistOrderWrongFalsely : Prop := fnExactTwistOrderRow.holds Try.pinned (OpenSpec.ofChange fnExactTwistOrderWrong)

/-- 'laws.FnExactConjugateData': WHATEVER THE INPUT: true; the input reads as it did. -/
def fnExactConjugateDataSpec : ChangeSpec := { name := "fnExactConjugateData", fn := fun _ => fun
  | [d] => { results := [.lit (.bool true)], args := [d] }
  | _ => none }
def fnExactConjugateDataRow : OpenClaim := { program := "ytejlokdophogcaa", sum := "4dd28e73849bd7c2c799ce01dbc1b30fa716c30ee0d64674bc62653d6a29cd38", func := "loop.example/g01132/laws.FnExactConjugateData", spec := "fnExactConjugateData", unfollowed := true, recurses := true, apart := false }
def FnExactConjugateDataSaid : Prop := fnExactConjugateDataRow.holds Try.pinned (OpenSpec.ofChange fnExactConjugateDataSpec)

/-- ITS FALSE NEIGHBOUR: 'it returns false'. Refute it at one input. -/
def fnExactConjugateDataWrong : ChangeSpec := { name := "fnExactConjugateData", fn := fun _ => fun
  | [d] => { results := [.lit (.bool false)], args := [d] }
  | _ => none }
def FnExactConjugateDataWrongFalsely : Prop := fnExactConjugateDataRow.holds Try.pinned (OpenSpec.ofChange fnExactConjugateDataWrong)

/-- 'laws.FnExactRingOfData': WHATEVER THE INPUT: true; the input reads as it did. -/
def fnExactRingOfDataSpec : ChangeSpec := { name := "fnExactRingOfData", fn := fun _ => fun
  | [d] => { results := [.lit (.bool true)], args := [d] }
  | _ => none }
def fnExactRingOfDataRow : OpenClaim := { program := "ytejlokdophogcaa", sum := "4dd28e73849bd7c2c799ce01dbc1b30fa716c30ee0d64674bc62653d6a29cd38", func := "loop.example/g01132/laws.FnExactRingOfData", spec := "fnExactRingOfData", unfollowed := true, recurses := true, apart := false }
def FnExactRingOfDataSaid : Prop := fnExactRingOfDataRow.holds Try.pinned (OpenSpec.ofChange fnExactRingOfDataSpec)

/-- ITS FALSE NEIGHBOUR: 'it returns false'. Refute it at one input. -/
def fnExactRingOfDataWrong : ChangeSpec := { name := "fnExactRingOfData", fn := fun _ => fun
  | [d] => { results := [.lit (.bool false)], args := [d] }
  | _ => none }
def FnExactRingOfDataWrongFalsely : Prop := fnExactRingOfDataRow.holds Try.pinned (OpenSpec.ofChange fnExactRingOfDataWrong)

/- THE SECOND FORM. 'bulk': how many values and letters a reading holds, each counted each time it is reached (what is shared counts as often as it is met; a slice's spare places count too). A statement '..UptoSaid' is the law's where the arguments, and the package variables that the reading takes, are together of bulk at most 1048576: NARROWER than '..Said'. Prove '..Said' where nothing that the law and all that it calls make is longer than what came in: it says more and counts as full. Else prove '..UptoSaid'. A law counts once. -/
mutual
def uptoBulk {H : Type} : DataW H → Nat
  | .lit (.string bytes) => bytes.length + 1
  | .lit _ => 1
  | .nil => 1
  | .ptr d => uptoBulk d + 1
  | .slice elems spare => uptoBulkAll elems + uptoBulkAll spare + 1
  | .agg parts => uptoBulkAll parts + 1
  | .iface _ d => uptoBulk d + 1
  | .map entries => uptoBulkEntries entries + 1
  | .held _ => 1
def uptoBulkAll {H : Type} : List (DataW H) → Nat
  | [] => 0
  | d :: r => uptoBulk d + uptoBulkAll r
def uptoBulkEntries {H : Type} : List (Lit × DataW H) → Nat
  | [] => 0
  | x :: r => uptoBulkEntry x + uptoBulkEntries r
def uptoBulkEntry {H : Type} : Lit × DataW H → Nat
  | (.string bytes, d) => bytes.length + uptoBulk d + 1
  | (_, d) => uptoBulk d + 1
 end
def uptoSmall : (H : Type) → List (DataW H) → Bool := fun _ ds => decide (uptoBulkAll ds ≤ 1048576)
def OpenSpec.upto (s : _root_.Go.ChangeSpec) : _root_.Go.OpenSpec := { _root_.Go.OpenSpec.ofChange s with cond := some uptoSmall }

/-- 'laws.FnExactIsData', WHERE WHAT IT READS IS OF BULK AT MOST 1048576: true; the input reads as it did. -/
def fnExactIsDataUptoRow : OpenClaim := { program := "ytejlokdophogcaa", sum := "4dd28e73849bd7c2c799ce01dbc1b30fa716c30ee0d64674bc62653d6a29cd38", func := "loop.example/g01132/laws.FnExactIsData", spec := "fnExactIsData", unfollowed := true, recurses := true, apart := false, narrowed := true }
def FnExactIsDataUptoSaid : Prop := fnExactIsDataUptoRow.holds Try.pinned (OpenSpec.upto fnExactIsDataSpec)

/-- 'laws.FnExactWholeOf', WHERE WHAT IT READS IS OF BULK AT MOST 1048576: true; the input reads as it did. -/
def fnExactWholeOfUptoRow : OpenClaim := { program := "ytejlokdophogcaa", sum := "4dd28e73849bd7c2c799ce01dbc1b30fa716c30ee0d64674bc62653d6a29cd38", func := "loop.example/g01132/laws.FnExactWholeOf", spec := "fnExactWholeOf", unfollowed := true, recurses := true, apart := false, narrowed := true }
def FnExactWholeOfUptoSaid : Prop := fnExactWholeOfUptoRow.holds Try.pinned (OpenSpec.upto fnExactWholeOfSpec)

/-- 'laws.FnExactDataFault', WHERE WHAT IT READS IS OF BULK AT MOST 1048576: true; the input reads as it did. -/
def fnExactDataFaultUptoRow : OpenClaim := { program := "ytejlokdophogcaa", sum := "4dd28e73849bd7c2c799ce01dbc1b30fa716c30ee0d64674bc62653d6a29cd38", func := "loop.example/g01132/laws.FnExactDataFault", spec := "fnExactDataFault", unfollowed := true, recurses := true, apart := false, narrowed := true }
def FnExactDataFaultUptoSaid : Prop := fnExactDataFaultUptoRow.holds Try.pinned (OpenSpec.upto fnExactDataFaultSpec)

/-- 'laws.FnExactCentralNumber', WHERE WHAT IT READS IS OF BULK AT MOST 1048576: true; the input reads as it did. -/
def fnExactCentralNumberUptoRow : OpenClaim := { program := "ytejlokdophogcaa", sum := "4dd28e73849bd7c2c799ce01dbc1b30fa716c30ee0d64674bc62653d6a29cd38", func := "loop.example/g01132/laws.FnExactCentralNumber", spec := "fnExactCentralNumber", unfollowed := true, recurses := true, apart := false, narrowed := true }
def FnExactCentralNumberUptoSaid : Prop := fnExactCentralNumberUptoRow.holds Try.pinned (OpenSpec.upto fnExactCentralNumberSpec)

/-- 'laws.FnExactMonodromyOf', WHERE WHAT IT READS IS OF BULK AT MOST 1048576: true; the input reads as it did. -/
def fnExactMonodromyOfUptoRow : OpenClaim := { program := "ytejlokdophogcaa", sum := "4dd28e73849bd7c2c799ce01dbc1b30fa716c30ee0d64674bc62653d6a29cd38", func := "loop.example/g01132/laws.FnExactMonodromyOf", spec := "fnExactMonodromyOf", unfollowed := true, recurses := true, apart := false, narrowed := true }
def FnExactMonodromyOfUptoSaid : Prop := fnExactMonodromyOfUptoRow.holds Try.pinned (OpenSpec.upto fnExactMonodromyOfSpec)

/-- 'laws.FnExactGaussSum', WHERE WHAT IT READS IS OF BULK AT MOST 1048576: true; the input reads as it did. -/
def fnExactGaussSumUptoRow : OpenClaim := { program := "ytejlokdophogcaa", sum := "4dd28e73849bd7c2c799ce01dbc1b30fa716c30ee0d64674bc62653d6a29cd38", func := "loop.example/g01132/laws.FnExactGaussSum", spec := "fnExactGaussSum", unfollowed := true, recurses := true, apart := false, narrowed := true }
def FnExactGaussSumUptoSaid : Prop := fnExactGaussSumUptoRow.holds Try.pinned (OpenSpec.upto fnExactGaussSumSpec)

/-- 'laws.FnExactIsInvertibleCharge', WHERE WHAT IT READS IS OF BULK AT MOST 1048576: true; the input reads as it did. -/
def fnExactIsInvertibleChargeUptoRow : OpenClaim := { program := "ytejlokdophogcaa", sum := "4dd28e73849bd7c2c799ce01dbc1b30fa716c30ee0d64674bc62653d6a29cd38", func := "loop.example/g01132/laws.FnExactIsInvertibleCharge", spec := "fnExactIsInvertibleCharge", unfollowed := true, recurses := true, apart := false, narrowed := true }
def FnExactIsInvertibleChargeUptoSaid : Prop := fnExactIsInvertibleChargeUptoRow.holds Try.pinned (OpenSpec.upto fnExactIsInvertibleChargeSpec)

/-- 'laws.FnExactConjugationOf', WHERE WHAT IT READS IS OF BULK AT MOST 1048576: true; the input reads as it did. -/
def fnExactConjugationOfUptoRow : OpenClaim := { program := "ytejlokdophogcaa", sum := "4dd28e73849bd7c2c799ce01dbc1b30fa716c30ee0d64674bc62653d6a29cd38", func := "loop.example/g01132/laws.FnExactConjugationOf", spec := "fnExactConjugationOf", unfollowed := true, recurses := true, apart := false, narrowed := true }
def FnExactConjugationOfUptoSaid : Prop := fnExactConjugationOfUptoRow.holds Try.pinned (OpenSpec.upto fnExactConjugationOfSpec)

/-- 'laws.FnExactDimensionsOf', WHERE WHAT IT READS IS OF BULK AT MOST 1048576: true; the input reads as it did. -/
def fnExactDimensionsOfUptoRow : OpenClaim := { program := "ytejlokdophogcaa", sum := "4dd28e73849bd7c2c799ce01dbc1b30fa716c30ee0d64674bc62653d6a29cd38", func := "loop.example/g01132/laws.FnExactDimensionsOf", spec := "fnExactDimensionsOf", unfollowed := true, recurses := true, apart := false, narrowed := true }
def FnExactDimensionsOfUptoSaid : Prop := fnExactDimensionsOfUptoRow.holds Try.pinned (OpenSpec.upto fnExactDimensionsOfSpec)

/-- 'laws.FnExactTwistOrder', WHERE WHAT IT READS IS OF BULK AT MOST 1048576: true; the input reads as it did. -/
def fnExactTwistOrderUptoRow : OpenClaim := { program := "ytejlokdophogcaa", sum := "4dd28e73849bd7c2c799ce01dbc1b30fa716c30ee0d64674bc62653d6a29cd38", func := "loop.example/g01132/laws.FnExactTwistOrder", spec := "fnExactTwistOrder", unfollowed := true, recurses := true, apart := false, narrowed := true }
def FnExactTwistOrderUptoSaid : Prop := fnExactTwistOrderUptoRow.holds Try.pinned (OpenSpec.upto fnExactTwistOrderSpec)

/-- 'laws.FnExactConjugateData', WHERE WHAT IT READS IS OF BULK AT MOST 1048576: true; the input reads as it did. -/
def fnExactConjugateDataUptoRow : OpenClaim := { program := "ytejlokdophogcaa", sum := "4dd28e73849bd7c2c799ce01dbc1b30fa716c30ee0d64674bc62653d6a29cd38", func := "loop.example/g01132/laws.FnExactConjugateData", spec := "fnExactConjugateData", unfollowed := true, recurses := true, apart := false, narrowed := true }
def FnExactConjugateDataUptoSaid : Prop := fnExactConjugateDataUptoRow.holds Try.pinned (OpenSpec.upto fnExactConjugateDataSpec)

/-- 'laws.FnExactRingOfData', WHERE WHAT IT READS IS OF BULK AT MOST 1048576: true; the input reads as it did. -/
def fnExactRingOfDataUptoRow : OpenClaim := { program := "ytejlokdophogcaa", sum := "4dd28e73849bd7c2c799ce01dbc1b30fa716c30ee0d64674bc62653d6a29cd38", func := "loop.example/g01132/laws.FnExactRingOfData", spec := "fnExactRingOfData", unfollowed := true, recurses := true, apart := false, narrowed := true }
def FnExactRingOfDataUptoSaid : Prop := fnExactRingOfDataUptoRow.holds Try.pinned (OpenSpec.upto fnExactRingOfDataSpec)

end Rows
end Go.Proofs.Ytejlokdophogcaa
