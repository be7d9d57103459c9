/-
  DERIVED. GIVEN WITH THE SEED: THE CARDS: each row of YtjcfefgbieeheaaDoorRows.lean that lists a variable, with what it lists TIED to the program's text (the seventh form; the later family's looks); each row that meets fmt, with fmt's text TOLD by the authors' own Lean function (tested against real Go, not proved from fmt's source: count such statements apart). THE CARD IS WHAT COUNTS. Prove the row's statement (the work); the ties are given (YtjcfefgbieeheaaDoorTie.lean); close each card by the builder's one call (the guide's Derived/Test/ToyasCard.lean, 'card_holds'). Laid BY PROGRAM, IN A SANDBOX (cutbox-door.mjs). By AI agents, Wed Nov 11 2026. No macro, syntax, notation, axiom, sorry.
-/
import Derived.Test.YtjcfefgbieeheaaDoorRows
import GoSem.ClaimSeven
namespace Go.Proofs.YtjcfefgbieeheaaDoor
namespace Rows

/-- THE TIED CARD OF 'laws.FnGradings'. -/
def fnGradingsCard : Claim7 := { stood := { row := fnGradingsRow, standIns := [], harness := (true, "398b9b98a244bd25645391bd32f06992f5a8c4575d11061d1afe6eabf0ec0959"), looks := false }, kinds := [], alts := [], laidByText := true, laidKinds := [.data], laidTests := true, laidLooks := .later }
def FnGradingsCardSaid : Prop := Claim7.holds Tryd.pinned (.plain (OpenSpec.ofChange fnGradingsSpec)) fnGradingsCard

/-- THE TIED CARD OF 'laws.FnSpinRings'. -/
def fnSpinRingsCard : Claim7 := { stood := { row := fnSpinRingsRow, standIns := [], harness := (true, "398b9b98a244bd25645391bd32f06992f5a8c4575d11061d1afe6eabf0ec0959"), looks := false }, kinds := [], alts := [], laidByText := true, laidKinds := [.data], laidTests := true, laidLooks := .later }
def FnSpinRingsCardSaid : Prop := Claim7.holds Tryd.pinned (.plain (OpenSpec.ofChange fnSpinRingsSpec)) fnSpinRingsCard

/-- THE SECOND FORM's CARD OF 'laws.FnGradings'. -/
def fnGradingsUptoCard : Claim7 := { stood := { row := fnGradingsUptoRow, standIns := [], harness := (true, "398b9b98a244bd25645391bd32f06992f5a8c4575d11061d1afe6eabf0ec0959"), looks := false }, kinds := [], alts := [], laidByText := true, laidKinds := [.data], laidTests := true, laidLooks := .later }
def FnGradingsUptoCardSaid : Prop := Claim7.holds Tryd.pinned (.plain (OpenSpec.upto fnGradingsSpec)) fnGradingsUptoCard

/-- THE SECOND FORM's CARD OF 'laws.FnSpinRings'. -/
def fnSpinRingsUptoCard : Claim7 := { stood := { row := fnSpinRingsUptoRow, standIns := [], harness := (true, "398b9b98a244bd25645391bd32f06992f5a8c4575d11061d1afe6eabf0ec0959"), looks := false }, kinds := [], alts := [], laidByText := true, laidKinds := [.data], laidTests := true, laidLooks := .later }
def FnSpinRingsUptoCardSaid : Prop := Claim7.holds Tryd.pinned (.plain (OpenSpec.upto fnSpinRingsSpec)) fnSpinRingsUptoCard
end Rows
end Go.Proofs.YtjcfefgbieeheaaDoor
