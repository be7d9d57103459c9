/-
  DERIVED. GIVEN WITH THE SEED: THE CARDS: each row of YtgaclhdmhipagaaDoorRows.lean that lists a variable, with what it lists TIED to the program's text (the seventh form; the later family's looks); each row that meets fmt, with fmt's text TOLD by the authors' own Lean function (tested against real Go, not proved from fmt's source: count such statements apart). THE CARD IS WHAT COUNTS. Prove the row's statement (the work); the ties are given (YtgaclhdmhipagaaDoorTie.lean); close each card by the builder's one call (the guide's Derived/Test/ToyasCard.lean, 'card_holds'). Laid BY PROGRAM, IN A SANDBOX (cutbox-door.mjs). By AI agents, Wed Nov 11 2026. No macro, syntax, notation, axiom, sorry.
-/
import Derived.Test.YtgaclhdmhipagaaDoorRows
import GoSem.ClaimSeven
namespace Go.Proofs.YtgaclhdmhipagaaDoor
namespace Rows

/-- THE TIED CARD OF 'laws.FnExactRingText'. -/
def fnExactRingTextCard : Claim7 := { stood := { row := fnExactRingTextRow, standIns := [], harness := (true, "ad0804ffe1dc0f7d804be16d6a870f3689ba0fd3bd4f609dabdf42685e408e94"), looks := false }, kinds := [], alts := [], laidByText := true, laidKinds := [.data, .data, .data], laidTests := true, laidLooks := .later }
def FnExactRingTextCardSaid : Prop := Claim7.holds Tryd.pinned (.plain (OpenSpec.ofChange fnExactRingTextSpec)) fnExactRingTextCard

/-- THE SECOND FORM's CARD OF 'laws.FnExactRingText'. -/
def fnExactRingTextUptoCard : Claim7 := { stood := { row := fnExactRingTextUptoRow, standIns := [], harness := (true, "ad0804ffe1dc0f7d804be16d6a870f3689ba0fd3bd4f609dabdf42685e408e94"), looks := false }, kinds := [], alts := [], laidByText := true, laidKinds := [.data, .data, .data], laidTests := true, laidLooks := .later }
def FnExactRingTextUptoCardSaid : Prop := Claim7.holds Tryd.pinned (.plain (OpenSpec.upto fnExactRingTextSpec)) fnExactRingTextUptoCard
end Rows
end Go.Proofs.YtgaclhdmhipagaaDoor
