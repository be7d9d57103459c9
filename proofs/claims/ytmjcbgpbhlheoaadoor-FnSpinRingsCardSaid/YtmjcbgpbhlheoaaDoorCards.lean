/-
  DERIVED. GIVEN WITH THE SEED: THE CARDS: each row of YtmjcbgpbhlheoaaDoorRows.lean that lists a variable, with what it lists TIED to the program's text (the seventh form; the later family's looks); each row that meets fmt, with fmt's text TOLD by the authors' own Lean function (tested against real Go, not proved from fmt's source: count such statements apart). THE CARD IS WHAT COUNTS. Prove the row's statement (the work); the ties are given (YtmjcbgpbhlheoaaDoorTie.lean); close each card by the builder's one call (the guide's Derived/Test/ToyasCard.lean, 'card_holds'). Laid BY PROGRAM, IN A SANDBOX (cutbox-door.mjs). By AI agents, Wed Nov 11 2026. No macro, syntax, notation, axiom, sorry.
-/
import Derived.Test.YtmjcbgpbhlheoaaDoorRows
import GoSem.ClaimSeven
namespace Go.Proofs.YtmjcbgpbhlheoaaDoor
namespace Rows

/-- THE TIED CARD OF 'laws.FnSpinRings'. -/
def fnSpinRingsCard : Claim7 := { stood := { row := fnSpinRingsRow, standIns := [], harness := (true, "4794a07aa6f4e33cd2979dc0e588bc3a366a6760be13bc56d24d49570ea3c6e0"), looks := false }, kinds := [], alts := [], laidByText := true, laidKinds := [.data], laidTests := true, laidLooks := .later }
def FnSpinRingsCardSaid : Prop := Claim7.holds Tryd.pinned (.plain (OpenSpec.ofChange fnSpinRingsSpec)) fnSpinRingsCard

/-- THE SECOND FORM's CARD OF 'laws.FnSpinRings'. -/
def fnSpinRingsUptoCard : Claim7 := { stood := { row := fnSpinRingsUptoRow, standIns := [], harness := (true, "4794a07aa6f4e33cd2979dc0e588bc3a366a6760be13bc56d24d49570ea3c6e0"), looks := false }, kinds := [], alts := [], laidByText := true, laidKinds := [.data], laidTests := true, laidLooks := .later }
def FnSpinRingsUptoCardSaid : Prop := Claim7.holds Tryd.pinned (.plain (OpenSpec.upto fnSpinRingsSpec)) fnSpinRingsUptoCard
end Rows
end Go.Proofs.YtmjcbgpbhlheoaaDoor
