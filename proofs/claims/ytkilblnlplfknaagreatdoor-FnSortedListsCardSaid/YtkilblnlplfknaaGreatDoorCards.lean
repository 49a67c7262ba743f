/-
  DERIVED. GIVEN WITH THE SEED: THE CARDS: each row of YtkilblnlplfknaaGreatDoorRows.lean that lists a variable, with what it lists TIED to the program's text (the seventh form; the later family's looks); each row that meets fmt, with fmt's text TOLD by the authors' own Lean function (tested against real Go, not proved from fmt's source: count such statements apart). THE CARD IS WHAT COUNTS. Prove the row's statement (the work); the ties are given (YtkilblnlplfknaaGreatDoorTie.lean); close each card by the builder's one call (the guide's Derived/Test/ToyasCard.lean, 'card_holds'). Laid BY PROGRAM, IN A SANDBOX (cutbox-door.mjs). By AI agents, Wed Nov 11 2026. No macro, syntax, notation, axiom, sorry.
-/
import Derived.Test.YtkilblnlplfknaaGreatDoorRows
import GoSem.ClaimSeven
namespace Go.Proofs.YtkilblnlplfknaaGreatDoor
namespace Rows

/-- THE TIED CARD OF 'laws.FnSortedLists'. -/
def fnSortedListsCard : Claim7 := { stood := { row := fnSortedListsRow, standIns := [], harness := (true, "b4bf0f1aa101002735d9747345f830905eba2892eba6a56b52291275905734bd"), looks := true }, kinds := [], alts := [], laidByText := true, laidKinds := [.data, .data, .data, .data, .sentinel, .sentinel, .pinned], laidTests := true, laidLooks := .later }
def FnSortedListsCardSaid : Prop := Claim7.holds Tryz.pinned (.plain (OpenSpec.ofChange fnSortedListsSpec)) fnSortedListsCard

/-- THE SECOND FORM's CARD OF 'laws.FnSortedLists'. -/
def fnSortedListsUptoCard : Claim7 := { stood := { row := fnSortedListsUptoRow, standIns := [], harness := (true, "b4bf0f1aa101002735d9747345f830905eba2892eba6a56b52291275905734bd"), looks := true }, kinds := [], alts := [], laidByText := true, laidKinds := [.data, .data, .data, .data, .sentinel, .sentinel, .pinned], laidTests := true, laidLooks := .later }
def FnSortedListsUptoCardSaid : Prop := Claim7.holds Tryz.pinned (.plain (OpenSpec.upto fnSortedListsSpec)) fnSortedListsUptoCard
end Rows
end Go.Proofs.YtkilblnlplfknaaGreatDoor
