/-
  DERIVED. GIVEN WITH THE SEED: THE CARDS: each row of YtendihbndpahdaaDoorRows.lean that lists a variable, with what it lists TIED to the program's text (the seventh form; the later family's looks); each row that meets fmt, with fmt's text TOLD by the authors' own Lean function (tested against real Go, not proved from fmt's source: count such statements apart). THE CARD IS WHAT COUNTS. Prove the row's statement (the work); the ties are given (YtendihbndpahdaaDoorTie.lean); close each card by the builder's one call (the guide's Derived/Test/ToyasCard.lean, 'card_holds'). Laid BY PROGRAM, IN A SANDBOX (cutbox-door.mjs). By AI agents, Wed Nov 11 2026. No macro, syntax, notation, axiom, sorry.
-/
import Derived.Test.YtendihbndpahdaaDoorRows
import GoSem.ClaimSeven
namespace Go.Proofs.YtendihbndpahdaaDoor
namespace Rows

/-- THE TIED CARD OF 'recastlaw6.TagsSets'. -/
def tagsSetsCard : Claim7 := { stood := { row := tagsSetsRow, standIns := [], harness := (true, "62dc1464d60e2a78895569015f2ea93fe262b39e912440645d5aad28c2cd4ec6"), looks := false }, kinds := [], alts := [], laidByText := true, laidKinds := [.data, .pinned], laidTests := true, laidLooks := .later }
def TagsSetsCardSaid : Prop := Claim7.holds Tryd.pinned (.plain (OpenSpec.ofChange tagsSetsSpec)) tagsSetsCard

/-- THE TIED CARD OF 'recastlaw6.TagsNothing'. -/
def tagsNothingCard : Claim7 := { stood := { row := tagsNothingRow, standIns := [], harness := (true, "62dc1464d60e2a78895569015f2ea93fe262b39e912440645d5aad28c2cd4ec6"), looks := false }, kinds := [], alts := [], laidByText := true, laidKinds := [.data, .pinned], laidTests := true, laidLooks := .later }
def TagsNothingCardSaid : Prop := Claim7.holds Tryd.pinned (.plain (OpenSpec.ofChange tagsNothingSpec)) tagsNothingCard

/-- THE SECOND FORM's CARD OF 'recastlaw6.TagsSets'. -/
def tagsSetsUptoCard : Claim7 := { stood := { row := tagsSetsUptoRow, standIns := [], harness := (true, "62dc1464d60e2a78895569015f2ea93fe262b39e912440645d5aad28c2cd4ec6"), looks := false }, kinds := [], alts := [], laidByText := true, laidKinds := [.data, .pinned], laidTests := true, laidLooks := .later }
def TagsSetsUptoCardSaid : Prop := Claim7.holds Tryd.pinned (.plain (OpenSpec.upto tagsSetsSpec)) tagsSetsUptoCard

/-- THE SECOND FORM's CARD OF 'recastlaw6.TagsNothing'. -/
def tagsNothingUptoCard : Claim7 := { stood := { row := tagsNothingUptoRow, standIns := [], harness := (true, "62dc1464d60e2a78895569015f2ea93fe262b39e912440645d5aad28c2cd4ec6"), looks := false }, kinds := [], alts := [], laidByText := true, laidKinds := [.data, .pinned], laidTests := true, laidLooks := .later }
def TagsNothingUptoCardSaid : Prop := Claim7.holds Tryd.pinned (.plain (OpenSpec.upto tagsNothingSpec)) tagsNothingUptoCard
end Rows
end Go.Proofs.YtendihbndpahdaaDoor
