/-
  DERIVED. GIVEN WITH THE SEED: THE CARDS: each row of YtgibcacciedobaaDoorRows.lean that lists a variable, with what it lists TIED to the program's text (the seventh form; the later family's looks); each row that meets fmt, with fmt's text TOLD by the authors' own Lean function (tested against real Go, not proved from fmt's source: count such statements apart). THE CARD IS WHAT COUNTS. Prove the row's statement (the work); the ties are given (YtgibcacciedobaaDoorTie.lean); close each card by the builder's one call (the guide's Derived/Test/ToyasCard.lean, 'card_holds'). Laid BY PROGRAM, IN A SANDBOX (cutbox-door.mjs). By AI agents, Wed Nov 11 2026. No macro, syntax, notation, axiom, sorry.
-/
import Derived.Test.YtgibcacciedobaaDoorRows
import GoSem.ClaimSeven
namespace Go.Proofs.YtgibcacciedobaaDoor
namespace Rows

/-- THE TIED CARD OF 'laws.FnExactBookText'. -/
def fnExactBookTextCard : Claim7 := { stood := { row := fnExactBookTextRow, standIns := [], harness := (true, "46a0bc5cc3e7fd84f248b6e7a22f426abc916f101dff13f1dd6d9d32c65d2111"), looks := true }, kinds := [], alts := [], laidByText := true, laidKinds := [.data, .data, .data], laidTests := true, laidLooks := .later }
def FnExactBookTextCardSaid : Prop := Claim7.holds Tryd.pinned (.plain (OpenSpec.ofChange fnExactBookTextSpec)) fnExactBookTextCard

/-- THE TIED CARD OF 'laws.FnExactBooksText'. -/
def fnExactBooksTextCard : Claim7 := { stood := { row := fnExactBooksTextRow, standIns := [], harness := (true, "46a0bc5cc3e7fd84f248b6e7a22f426abc916f101dff13f1dd6d9d32c65d2111"), looks := true }, kinds := [], alts := [], laidByText := true, laidKinds := [.data, .data, .data], laidTests := true, laidLooks := .later }
def FnExactBooksTextCardSaid : Prop := Claim7.holds Tryd.pinned (.plain (OpenSpec.ofChange fnExactBooksTextSpec)) fnExactBooksTextCard

/-- THE TIED CARD OF 'laws.FnExactReadBook'. -/
def fnExactReadBookCard : Claim7 := { stood := { row := fnExactReadBookRow, standIns := [], harness := (true, "46a0bc5cc3e7fd84f248b6e7a22f426abc916f101dff13f1dd6d9d32c65d2111"), looks := true }, kinds := [], alts := [], laidByText := true, laidKinds := [.data, .data, .data, .data, .sentinel, .sentinel, .pinned], laidTests := true, laidLooks := .later }
def FnExactReadBookCardSaid : Prop := Claim7.holds Tryd.pinned (.plain (OpenSpec.ofChange fnExactReadBookSpec)) fnExactReadBookCard

/-- THE TIED CARD OF 'laws.FnExactReadBooks'. -/
def fnExactReadBooksCard : Claim7 := { stood := { row := fnExactReadBooksRow, standIns := [], harness := (true, "46a0bc5cc3e7fd84f248b6e7a22f426abc916f101dff13f1dd6d9d32c65d2111"), looks := true }, kinds := [], alts := [], laidByText := true, laidKinds := [.data, .data, .data, .data, .sentinel, .sentinel, .pinned], laidTests := true, laidLooks := .later }
def FnExactReadBooksCardSaid : Prop := Claim7.holds Tryd.pinned (.plain (OpenSpec.ofChange fnExactReadBooksSpec)) fnExactReadBooksCard

/-- THE TIED CARD OF 'laws.FnExactLayoutText'. -/
def fnExactLayoutTextCard : Claim7 := { stood := { row := fnExactLayoutTextRow, standIns := [], harness := (true, "46a0bc5cc3e7fd84f248b6e7a22f426abc916f101dff13f1dd6d9d32c65d2111"), looks := true }, kinds := [], alts := [], laidByText := true, laidKinds := [.data, .data, .data], laidTests := true, laidLooks := .later }
def FnExactLayoutTextCardSaid : Prop := Claim7.holds Tryd.pinned (.plain (OpenSpec.ofChange fnExactLayoutTextSpec)) fnExactLayoutTextCard

/-- THE TIED CARD OF 'laws.FnExactCaseText'. -/
def fnExactCaseTextCard : Claim7 := { stood := { row := fnExactCaseTextRow, standIns := [], harness := (true, "46a0bc5cc3e7fd84f248b6e7a22f426abc916f101dff13f1dd6d9d32c65d2111"), looks := true }, kinds := [], alts := [], laidByText := true, laidKinds := [.data, .data, .data], laidTests := true, laidLooks := .later }
def FnExactCaseTextCardSaid : Prop := Claim7.holds Tryd.pinned (.plain (OpenSpec.ofChange fnExactCaseTextSpec)) fnExactCaseTextCard

/-- THE TIED CARD OF 'laws.FnExactReadLayout'. -/
def fnExactReadLayoutCard : Claim7 := { stood := { row := fnExactReadLayoutRow, standIns := [], harness := (true, "46a0bc5cc3e7fd84f248b6e7a22f426abc916f101dff13f1dd6d9d32c65d2111"), looks := true }, kinds := [], alts := [], laidByText := true, laidKinds := [.data, .data, .data, .data, .sentinel, .sentinel, .pinned], laidTests := true, laidLooks := .later }
def FnExactReadLayoutCardSaid : Prop := Claim7.holds Tryd.pinned (.plain (OpenSpec.ofChange fnExactReadLayoutSpec)) fnExactReadLayoutCard

/-- THE TIED CARD OF 'laws.FnExactReadCase'. -/
def fnExactReadCaseCard : Claim7 := { stood := { row := fnExactReadCaseRow, standIns := [], harness := (true, "46a0bc5cc3e7fd84f248b6e7a22f426abc916f101dff13f1dd6d9d32c65d2111"), looks := true }, kinds := [], alts := [], laidByText := true, laidKinds := [.data, .data, .data, .data, .sentinel, .sentinel, .pinned], laidTests := true, laidLooks := .later }
def FnExactReadCaseCardSaid : Prop := Claim7.holds Tryd.pinned (.plain (OpenSpec.ofChange fnExactReadCaseSpec)) fnExactReadCaseCard

/-- THE SECOND FORM's CARD OF 'laws.FnExactBookText'. -/
def fnExactBookTextUptoCard : Claim7 := { stood := { row := fnExactBookTextUptoRow, standIns := [], harness := (true, "46a0bc5cc3e7fd84f248b6e7a22f426abc916f101dff13f1dd6d9d32c65d2111"), looks := true }, kinds := [], alts := [], laidByText := true, laidKinds := [.data, .data, .data], laidTests := true, laidLooks := .later }
def FnExactBookTextUptoCardSaid : Prop := Claim7.holds Tryd.pinned (.plain (OpenSpec.upto fnExactBookTextSpec)) fnExactBookTextUptoCard

/-- THE SECOND FORM's CARD OF 'laws.FnExactBooksText'. -/
def fnExactBooksTextUptoCard : Claim7 := { stood := { row := fnExactBooksTextUptoRow, standIns := [], harness := (true, "46a0bc5cc3e7fd84f248b6e7a22f426abc916f101dff13f1dd6d9d32c65d2111"), looks := true }, kinds := [], alts := [], laidByText := true, laidKinds := [.data, .data, .data], laidTests := true, laidLooks := .later }
def FnExactBooksTextUptoCardSaid : Prop := Claim7.holds Tryd.pinned (.plain (OpenSpec.upto fnExactBooksTextSpec)) fnExactBooksTextUptoCard

/-- THE SECOND FORM's CARD OF 'laws.FnExactReadBook'. -/
def fnExactReadBookUptoCard : Claim7 := { stood := { row := fnExactReadBookUptoRow, standIns := [], harness := (true, "46a0bc5cc3e7fd84f248b6e7a22f426abc916f101dff13f1dd6d9d32c65d2111"), looks := true }, kinds := [], alts := [], laidByText := true, laidKinds := [.data, .data, .data, .data, .sentinel, .sentinel, .pinned], laidTests := true, laidLooks := .later }
def FnExactReadBookUptoCardSaid : Prop := Claim7.holds Tryd.pinned (.plain (OpenSpec.upto fnExactReadBookSpec)) fnExactReadBookUptoCard

/-- THE SECOND FORM's CARD OF 'laws.FnExactReadBooks'. -/
def fnExactReadBooksUptoCard : Claim7 := { stood := { row := fnExactReadBooksUptoRow, standIns := [], harness := (true, "46a0bc5cc3e7fd84f248b6e7a22f426abc916f101dff13f1dd6d9d32c65d2111"), looks := true }, kinds := [], alts := [], laidByText := true, laidKinds := [.data, .data, .data, .data, .sentinel, .sentinel, .pinned], laidTests := true, laidLooks := .later }
def FnExactReadBooksUptoCardSaid : Prop := Claim7.holds Tryd.pinned (.plain (OpenSpec.upto fnExactReadBooksSpec)) fnExactReadBooksUptoCard

/-- THE SECOND FORM's CARD OF 'laws.FnExactLayoutText'. -/
def fnExactLayoutTextUptoCard : Claim7 := { stood := { row := fnExactLayoutTextUptoRow, standIns := [], harness := (true, "46a0bc5cc3e7fd84f248b6e7a22f426abc916f101dff13f1dd6d9d32c65d2111"), looks := true }, kinds := [], alts := [], laidByText := true, laidKinds := [.data, .data, .data], laidTests := true, laidLooks := .later }
def FnExactLayoutTextUptoCardSaid : Prop := Claim7.holds Tryd.pinned (.plain (OpenSpec.upto fnExactLayoutTextSpec)) fnExactLayoutTextUptoCard

/-- THE SECOND FORM's CARD OF 'laws.FnExactCaseText'. -/
def fnExactCaseTextUptoCard : Claim7 := { stood := { row := fnExactCaseTextUptoRow, standIns := [], harness := (true, "46a0bc5cc3e7fd84f248b6e7a22f426abc916f101dff13f1dd6d9d32c65d2111"), looks := true }, kinds := [], alts := [], laidByText := true, laidKinds := [.data, .data, .data], laidTests := true, laidLooks := .later }
def FnExactCaseTextUptoCardSaid : Prop := Claim7.holds Tryd.pinned (.plain (OpenSpec.upto fnExactCaseTextSpec)) fnExactCaseTextUptoCard

/-- THE SECOND FORM's CARD OF 'laws.FnExactReadLayout'. -/
def fnExactReadLayoutUptoCard : Claim7 := { stood := { row := fnExactReadLayoutUptoRow, standIns := [], harness := (true, "46a0bc5cc3e7fd84f248b6e7a22f426abc916f101dff13f1dd6d9d32c65d2111"), looks := true }, kinds := [], alts := [], laidByText := true, laidKinds := [.data, .data, .data, .data, .sentinel, .sentinel, .pinned], laidTests := true, laidLooks := .later }
def FnExactReadLayoutUptoCardSaid : Prop := Claim7.holds Tryd.pinned (.plain (OpenSpec.upto fnExactReadLayoutSpec)) fnExactReadLayoutUptoCard

/-- THE SECOND FORM's CARD OF 'laws.FnExactReadCase'. -/
def fnExactReadCaseUptoCard : Claim7 := { stood := { row := fnExactReadCaseUptoRow, standIns := [], harness := (true, "46a0bc5cc3e7fd84f248b6e7a22f426abc916f101dff13f1dd6d9d32c65d2111"), looks := true }, kinds := [], alts := [], laidByText := true, laidKinds := [.data, .data, .data, .data, .sentinel, .sentinel, .pinned], laidTests := true, laidLooks := .later }
def FnExactReadCaseUptoCardSaid : Prop := Claim7.holds Tryd.pinned (.plain (OpenSpec.upto fnExactReadCaseSpec)) fnExactReadCaseUptoCard
end Rows
end Go.Proofs.YtgibcacciedobaaDoor
