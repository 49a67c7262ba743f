/-
  DERIVED. GIVEN WITH THE SEED: THE CARDS: each row of YtgibcacciedobaaGreatDoorRows.lean that lists a variable, with what it lists TIED to the program's text (the seventh form; the later family's looks); each row that meets fmt, with fmt's text TOLD by the authors' own Lean function (tested against real Go, not proved from fmt's source: count such statements apart). THE CARD IS WHAT COUNTS. Prove the row's statement (the work); the ties are given (YtgibcacciedobaaGreatDoorTie.lean); close each card by the builder's one call (the guide's Derived/Test/ToyasCard.lean, 'card_holds'). Laid BY PROGRAM, IN A SANDBOX (cutbox-door.mjs). By AI agents, Wed Nov 11 2026. No macro, syntax, notation, axiom, sorry.
-/
import Derived.Test.YtgibcacciedobaaGreatDoorRows
import GoSem.ClaimSeven
namespace Go.Proofs.YtgibcacciedobaaGreatDoor
namespace Rows

/-- THE TIED CARD OF 'laws.FnSortedLists'. -/
def fnSortedListsCard : Claim7 := { stood := { row := fnSortedListsRow, standIns := [], harness := (true, "280e02a8eadd59d5a4246a175b5aa12569dcd03127cc3c377c0844ba6a2e7a25"), looks := true }, kinds := [], alts := [], laidByText := true, laidKinds := [.data, .data, .data, .data, .sentinel, .sentinel, .pinned], laidTests := true, laidLooks := .later }
def FnSortedListsCardSaid : Prop := Claim7.holds Tryz.pinned (.plain (OpenSpec.ofChange fnSortedListsSpec)) fnSortedListsCard

/-- THE TIED CARD OF 'laws.FnBooks'. -/
def fnBooksCard : Claim7 := { stood := { row := fnBooksRow, standIns := [], harness := (true, "280e02a8eadd59d5a4246a175b5aa12569dcd03127cc3c377c0844ba6a2e7a25"), looks := true }, kinds := [], alts := [], laidByText := true, laidKinds := [.data, .data, .data, .data, .sentinel, .sentinel, .pinned], laidTests := true, laidLooks := .later }
def FnBooksCardSaid : Prop := Claim7.holds Tryz.pinned (.plain (OpenSpec.ofChange fnBooksSpec)) fnBooksCard

/-- THE TIED CARD OF 'laws.FnFilled'. -/
def fnFilledCard : Claim7 := { stood := { row := fnFilledRow, standIns := [], harness := (true, "280e02a8eadd59d5a4246a175b5aa12569dcd03127cc3c377c0844ba6a2e7a25"), looks := true }, kinds := [], alts := [], laidByText := true, laidKinds := [.data, .data, .data, .data, .sentinel, .sentinel, .pinned], laidTests := true, laidLooks := .later }
def FnFilledCardSaid : Prop := Claim7.holds Tryz.pinned (.plain (OpenSpec.ofChange fnFilledSpec)) fnFilledCard

/-- THE SECOND FORM's CARD OF 'laws.FnSortedLists'. -/
def fnSortedListsUptoCard : Claim7 := { stood := { row := fnSortedListsUptoRow, standIns := [], harness := (true, "280e02a8eadd59d5a4246a175b5aa12569dcd03127cc3c377c0844ba6a2e7a25"), looks := true }, kinds := [], alts := [], laidByText := true, laidKinds := [.data, .data, .data, .data, .sentinel, .sentinel, .pinned], laidTests := true, laidLooks := .later }
def FnSortedListsUptoCardSaid : Prop := Claim7.holds Tryz.pinned (.plain (OpenSpec.upto fnSortedListsSpec)) fnSortedListsUptoCard

/-- THE SECOND FORM's CARD OF 'laws.FnBooks'. -/
def fnBooksUptoCard : Claim7 := { stood := { row := fnBooksUptoRow, standIns := [], harness := (true, "280e02a8eadd59d5a4246a175b5aa12569dcd03127cc3c377c0844ba6a2e7a25"), looks := true }, kinds := [], alts := [], laidByText := true, laidKinds := [.data, .data, .data, .data, .sentinel, .sentinel, .pinned], laidTests := true, laidLooks := .later }
def FnBooksUptoCardSaid : Prop := Claim7.holds Tryz.pinned (.plain (OpenSpec.upto fnBooksSpec)) fnBooksUptoCard

/-- THE SECOND FORM's CARD OF 'laws.FnFilled'. -/
def fnFilledUptoCard : Claim7 := { stood := { row := fnFilledUptoRow, standIns := [], harness := (true, "280e02a8eadd59d5a4246a175b5aa12569dcd03127cc3c377c0844ba6a2e7a25"), looks := true }, kinds := [], alts := [], laidByText := true, laidKinds := [.data, .data, .data, .data, .sentinel, .sentinel, .pinned], laidTests := true, laidLooks := .later }
def FnFilledUptoCardSaid : Prop := Claim7.holds Tryz.pinned (.plain (OpenSpec.upto fnFilledSpec)) fnFilledUptoCard
end Rows
end Go.Proofs.YtgibcacciedobaaGreatDoor
