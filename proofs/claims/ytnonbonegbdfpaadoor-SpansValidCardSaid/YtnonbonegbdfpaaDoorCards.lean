/-
  DERIVED. GIVEN WITH THE SEED: THE CARDS: each row of YtnonbonegbdfpaaDoorRows.lean that lists a variable, with what it lists TIED to the program's text (the seventh form; the later family's looks); each row that meets fmt, with fmt's text TOLD by the authors' own Lean function (tested against real Go, not proved from fmt's source: count such statements apart). THE CARD IS WHAT COUNTS. Prove the row's statement (the work); the ties are given (YtnonbonegbdfpaaDoorTie.lean); close each card by the builder's one call (the guide's Derived/Test/ToyasCard.lean, 'card_holds'). Laid BY PROGRAM, IN A SANDBOX (cutbox-door.mjs). By AI agents, Wed Nov 11 2026. No macro, syntax, notation, axiom, sorry.
-/
import Derived.Test.YtnonbonegbdfpaaDoorRows
import GoSem.ClaimSeven
namespace Go.Proofs.YtnonbonegbdfpaaDoor
namespace Rows

/-- THE TIED CARD OF 'recastlaw1.SpansValid'. -/
def spansValidCard : Claim7 := { stood := { row := spansValidRow, standIns := [], harness := (true, "d8a8bcbfacc151d4596b6e849472eca97c980c6a7d905a52b1a920b27fcfbc58"), looks := false }, kinds := [], alts := [], laidByText := true, laidKinds := [.data, .pinned], laidTests := true, laidLooks := .later }
def SpansValidCardSaid : Prop := Claim7.holds Tryd.pinned (.plain (OpenSpec.ofChange spansValidSpec)) spansValidCard

/-- THE TIED CARD OF 'recastlaw1.SpansIndent'. -/
def spansIndentCard : Claim7 := { stood := { row := spansIndentRow, standIns := [], harness := (true, "d8a8bcbfacc151d4596b6e849472eca97c980c6a7d905a52b1a920b27fcfbc58"), looks := false }, kinds := [], alts := [], laidByText := true, laidKinds := [.data, .pinned], laidTests := true, laidLooks := .later }
def SpansIndentCardSaid : Prop := Claim7.holds Tryd.pinned (.plain (OpenSpec.ofChange spansIndentSpec)) spansIndentCard

/-- THE TIED CARD OF 'recastlaw1.SpansPlaces'. -/
def spansPlacesCard : Claim7 := { stood := { row := spansPlacesRow, standIns := [], harness := (true, "d8a8bcbfacc151d4596b6e849472eca97c980c6a7d905a52b1a920b27fcfbc58"), looks := false }, kinds := [], alts := [], laidByText := true, laidKinds := [.data, .pinned], laidTests := true, laidLooks := .later }
def SpansPlacesCardSaid : Prop := Claim7.holds Tryd.pinned (.plain (OpenSpec.ofChange spansPlacesSpec)) spansPlacesCard

/-- THE SECOND FORM's CARD OF 'recastlaw1.SpansValid'. -/
def spansValidUptoCard : Claim7 := { stood := { row := spansValidUptoRow, standIns := [], harness := (true, "d8a8bcbfacc151d4596b6e849472eca97c980c6a7d905a52b1a920b27fcfbc58"), looks := false }, kinds := [], alts := [], laidByText := true, laidKinds := [.data, .pinned], laidTests := true, laidLooks := .later }
def SpansValidUptoCardSaid : Prop := Claim7.holds Tryd.pinned (.plain (OpenSpec.upto spansValidSpec)) spansValidUptoCard

/-- THE SECOND FORM's CARD OF 'recastlaw1.SpansIndent'. -/
def spansIndentUptoCard : Claim7 := { stood := { row := spansIndentUptoRow, standIns := [], harness := (true, "d8a8bcbfacc151d4596b6e849472eca97c980c6a7d905a52b1a920b27fcfbc58"), looks := false }, kinds := [], alts := [], laidByText := true, laidKinds := [.data, .pinned], laidTests := true, laidLooks := .later }
def SpansIndentUptoCardSaid : Prop := Claim7.holds Tryd.pinned (.plain (OpenSpec.upto spansIndentSpec)) spansIndentUptoCard

/-- THE SECOND FORM's CARD OF 'recastlaw1.SpansPlaces'. -/
def spansPlacesUptoCard : Claim7 := { stood := { row := spansPlacesUptoRow, standIns := [], harness := (true, "d8a8bcbfacc151d4596b6e849472eca97c980c6a7d905a52b1a920b27fcfbc58"), looks := false }, kinds := [], alts := [], laidByText := true, laidKinds := [.data, .pinned], laidTests := true, laidLooks := .later }
def SpansPlacesUptoCardSaid : Prop := Claim7.holds Tryd.pinned (.plain (OpenSpec.upto spansPlacesSpec)) spansPlacesUptoCard
end Rows
end Go.Proofs.YtnonbonegbdfpaaDoor
