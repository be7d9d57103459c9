/-
  DERIVED. GIVEN WITH THE SEED: THE CARDS: each row of YtfnokakbdehlgaaDoorRows.lean that lists a variable, with what it lists TIED to the program's text (the seventh form; the later family's looks); each row that meets fmt, with fmt's text TOLD by the authors' own Lean function (tested against real Go, not proved from fmt's source: count such statements apart). THE CARD IS WHAT COUNTS. Prove the row's statement (the work); the ties are given (YtfnokakbdehlgaaDoorTie.lean); close each card by the builder's one call (the guide's Derived/Test/ToyasCard.lean, 'card_holds'). Laid BY PROGRAM, IN A SANDBOX (cutbox-door.mjs). By AI agents, Wed Nov 11 2026. No macro, syntax, notation, axiom, sorry.
-/
import Derived.Test.YtfnokakbdehlgaaDoorRows
import GoSem.ClaimSeven
namespace Go.Proofs.YtfnokakbdehlgaaDoor
namespace Rows

/-- THE TIED CARD OF 'laws.FnGradings'. -/
def fnGradingsCard : Claim7 := { stood := { row := fnGradingsRow, standIns := [], harness := (true, "e3166b1bb2dd27ee4bcc1dd2d2100993d00b43e6ca0c1aecfa7d40196c5246c5"), looks := false }, kinds := [], alts := [], laidByText := true, laidKinds := [.data], laidTests := true, laidLooks := .later }
def FnGradingsCardSaid : Prop := Claim7.holds Tryd.pinned (.plain (OpenSpec.ofChange fnGradingsSpec)) fnGradingsCard

/-- THE TIED CARD OF 'laws.FnSeries'. -/
def fnSeriesCard : Claim7 := { stood := { row := fnSeriesRow, standIns := [], harness := (true, "e3166b1bb2dd27ee4bcc1dd2d2100993d00b43e6ca0c1aecfa7d40196c5246c5"), looks := false }, kinds := [], alts := [], laidByText := true, laidKinds := [.data], laidTests := true, laidLooks := .later }
def FnSeriesCardSaid : Prop := Claim7.holds Tryd.pinned (.plain (OpenSpec.ofChange fnSeriesSpec)) fnSeriesCard

/-- THE TIED CARD OF 'laws.FnSubrings'. -/
def fnSubringsCard : Claim7 := { stood := { row := fnSubringsRow, standIns := [], harness := (true, "e3166b1bb2dd27ee4bcc1dd2d2100993d00b43e6ca0c1aecfa7d40196c5246c5"), looks := false }, kinds := [], alts := [], laidByText := true, laidKinds := [.data], laidTests := true, laidLooks := .later }
def FnSubringsCardSaid : Prop := Claim7.holds Tryd.pinned (.plain (OpenSpec.ofChange fnSubringsSpec)) fnSubringsCard

/-- THE SECOND FORM's CARD OF 'laws.FnGradings'. -/
def fnGradingsUptoCard : Claim7 := { stood := { row := fnGradingsUptoRow, standIns := [], harness := (true, "e3166b1bb2dd27ee4bcc1dd2d2100993d00b43e6ca0c1aecfa7d40196c5246c5"), looks := false }, kinds := [], alts := [], laidByText := true, laidKinds := [.data], laidTests := true, laidLooks := .later }
def FnGradingsUptoCardSaid : Prop := Claim7.holds Tryd.pinned (.plain (OpenSpec.upto fnGradingsSpec)) fnGradingsUptoCard

/-- THE SECOND FORM's CARD OF 'laws.FnSeries'. -/
def fnSeriesUptoCard : Claim7 := { stood := { row := fnSeriesUptoRow, standIns := [], harness := (true, "e3166b1bb2dd27ee4bcc1dd2d2100993d00b43e6ca0c1aecfa7d40196c5246c5"), looks := false }, kinds := [], alts := [], laidByText := true, laidKinds := [.data], laidTests := true, laidLooks := .later }
def FnSeriesUptoCardSaid : Prop := Claim7.holds Tryd.pinned (.plain (OpenSpec.upto fnSeriesSpec)) fnSeriesUptoCard

/-- THE SECOND FORM's CARD OF 'laws.FnSubrings'. -/
def fnSubringsUptoCard : Claim7 := { stood := { row := fnSubringsUptoRow, standIns := [], harness := (true, "e3166b1bb2dd27ee4bcc1dd2d2100993d00b43e6ca0c1aecfa7d40196c5246c5"), looks := false }, kinds := [], alts := [], laidByText := true, laidKinds := [.data], laidTests := true, laidLooks := .later }
def FnSubringsUptoCardSaid : Prop := Claim7.holds Tryd.pinned (.plain (OpenSpec.upto fnSubringsSpec)) fnSubringsUptoCard
end Rows
end Go.Proofs.YtfnokakbdehlgaaDoor
