/-
  No cell of these rows narrows 'for every input' (looked for: loops, veiled, ifaces, maps, wideKeys, modest, calm, conditions, laid).
  DERIVED. THE GIVEN ROWS OF THIS SEAT. 23 by the template 'for every input the law returns true; each argument reads behind the call as it read before'; 0 by the template 'total and deterministic' (their statements: YtdippdkneeocfaaTotals.lean).
  GIVEN WITH THE SEED: the statements are not yours to turn. If you find one false, say at which input.
  Laid BY PROGRAM, IN A SANDBOX (cutbox-rows.mjs): the forced cells as the released guide's own fill.sh prints them over the translation 57accbfbe5fa4d30… (all of the seat's roots in one cut). By AI agents, Wed Nov 11 2026. No macro, syntax, notation, axiom, sorry.
-/
import Derived.Test.YtdippdkneeocfaaChecked
import GoSem.Claim
import GoSem.ClaimJoined
import GoSem.ClaimMapViews
import Derived.JoinedTies
import Derived.KernelRfl
namespace Go.Proofs.Ytdippdkneeocfaa
/- THE CELL 'sum', in the pinned program and in every row, IS THE sha256 OF THE DUMP (.gsa) THAT YtdippdkneeocfaaProg.lean LOADS. Nothing in Lean hashes anything: it is a label: what it is worth is what the hold of that sum in a sandbox is worth. -/
noncomputable def Try.pinned : Pinned := { name := "ytdippdkneeocfaa", sum := "57accbfbe5fa4d302b80cc399b736a3fcad88eb0a82edc2e5e6ce4d8c8249f6d", checked := Try.checked }
namespace Rows
def none {H : Type} : Left H := { results := [], args := [] }

/-- 'laws.FnExactValidBook': WHATEVER THE INPUT: true; the input reads as it did. -/
def fnExactValidBookSpec : ChangeSpec := { name := "fnExactValidBook", fn := fun _ => fun
  | [d] => { results := [.lit (.bool true)], args := [d] }
  | _ => none }
def fnExactValidBookRow : OpenClaim := { program := "ytdippdkneeocfaa", sum := "57accbfbe5fa4d302b80cc399b736a3fcad88eb0a82edc2e5e6ce4d8c8249f6d", func := "loop.example/g01326/laws.FnExactValidBook", spec := "fnExactValidBook", unfollowed := true, recurses := true, apart := false }
def FnExactValidBookSaid : Prop := fnExactValidBookRow.holds Try.pinned (OpenSpec.ofChange fnExactValidBookSpec)

/-- ITS FALSE NEIGHBOUR: 'it returns false'. Refute it at one input. -/
def fnExactValidBookWrong : ChangeSpec := { name := "fnExactValidBook", fn := fun _ => fun
  | [d] => { results := [.lit (.bool false)], args := [d] }
  | _ => none }
def FnExactValidBookWrongFalsely : Prop := fnExactValidBookRow.holds Try.pinned (OpenSpec.ofChange fnExactValidBookWrong)

/-- 'laws.FnExactSameBooks': WHATEVER THE INPUT: true; the input reads as it did. -/
def fnExactSameBooksSpec : ChangeSpec := { name := "fnExactSameBooks", fn := fun _ => fun
  | [d1, d2] => { results := [.lit (.bool true)], args := [d1, d2] }
  | _ => none }
def fnExactSameBooksRow : OpenClaim := { program := "ytdippdkneeocfaa", sum := "57accbfbe5fa4d302b80cc399b736a3fcad88eb0a82edc2e5e6ce4d8c8249f6d", func := "loop.example/g01326/laws.FnExactSameBooks", spec := "fnExactSameBooks", apart := false }
def FnExactSameBooksSaid : Prop := fnExactSameBooksRow.holds Try.pinned (OpenSpec.ofChange fnExactSameBooksSpec)

/-- ITS FALSE NEIGHBOUR: 'it returns false'. Refute it at one input. -/
def fnExactSameBooksWrong : ChangeSpec := { name := "fnExactSameBooks", fn := fun _ => fun
  | [d1, d2] => { results := [.lit (.bool false)], args := [d1, d2] }
  | _ => none }
def FnExactSameBooksWrongFalsely : Prop := fnExactSameBooksRow.holds Try.pinned (OpenSpec.ofChange fnExactSameBooksWrong)

/-- 'laws.FnExactSwapAll': WHATEVER THE INPUT: true; the input reads as it did. -/
def fnExactSwapAllSpec : ChangeSpec := { name := "fnExactSwapAll", fn := fun _ => fun
  | [d1, d2] => { results := [.lit (.bool true)], args := [d1, d2] }
  | _ => none }
def fnExactSwapAllRow : OpenClaim := { program := "ytdippdkneeocfaa", sum := "57accbfbe5fa4d302b80cc399b736a3fcad88eb0a82edc2e5e6ce4d8c8249f6d", func := "loop.example/g01326/laws.FnExactSwapAll", spec := "fnExactSwapAll", unfollowed := true, recurses := true, apart := false }
def FnExactSwapAllSaid : Prop := fnExactSwapAllRow.holds Try.pinned (OpenSpec.ofChange fnExactSwapAllSpec)

/-- ITS FALSE NEIGHBOUR: 'it returns false'. Refute it at one input. -/
def fnExactSwapAllWrong : ChangeSpec := { name := "fnExactSwapAll", fn := fun _ => fun
  | [d1, d2] => { results := [.lit (.bool false)], args := [d1, d2] }
  | _ => none }
def FnExactSwapAllWrongFalsely : Prop := fnExactSwapAllRow.holds Try.pinned (OpenSpec.ofChange fnExactSwapAllWrong)

/-- 'laws.FnExactSameCase': WHATEVER THE INPUT: true; the input reads as it did. -/
def fnExactSameCaseSpec : ChangeSpec := { name := "fnExactSameCase", fn := fun _ => fun
  | [d1, d2] => { results := [.lit (.bool true)], args := [d1, d2] }
  | _ => none }
def fnExactSameCaseRow : OpenClaim := { program := "ytdippdkneeocfaa", sum := "57accbfbe5fa4d302b80cc399b736a3fcad88eb0a82edc2e5e6ce4d8c8249f6d", func := "loop.example/g01326/laws.FnExactSameCase", spec := "fnExactSameCase", apart := false }
def FnExactSameCaseSaid : Prop := fnExactSameCaseRow.holds Try.pinned (OpenSpec.ofChange fnExactSameCaseSpec)

/-- ITS FALSE NEIGHBOUR: 'it returns false'. Refute it at one input. -/
def fnExactSameCaseWrong : ChangeSpec := { name := "fnExactSameCase", fn := fun _ => fun
  | [d1, d2] => { results := [.lit (.bool false)], args := [d1, d2] }
  | _ => none }
def FnExactSameCaseWrongFalsely : Prop := fnExactSameCaseRow.holds Try.pinned (OpenSpec.ofChange fnExactSameCaseWrong)

/-- 'laws.FnExactValidCase': WHATEVER THE INPUT: true; the input reads as it did. -/
def fnExactValidCaseSpec : ChangeSpec := { name := "fnExactValidCase", fn := fun _ => fun
  | [d] => { results := [.lit (.bool true)], args := [d] }
  | _ => none }
def fnExactValidCaseRow : OpenClaim := { program := "ytdippdkneeocfaa", sum := "57accbfbe5fa4d302b80cc399b736a3fcad88eb0a82edc2e5e6ce4d8c8249f6d", func := "loop.example/g01326/laws.FnExactValidCase", spec := "fnExactValidCase", unfollowed := true, recurses := true, apart := false }
def FnExactValidCaseSaid : Prop := fnExactValidCaseRow.holds Try.pinned (OpenSpec.ofChange fnExactValidCaseSpec)

/-- ITS FALSE NEIGHBOUR: 'it returns false'. Refute it at one input. -/
def fnExactValidCaseWrong : ChangeSpec := { name := "fnExactValidCase", fn := fun _ => fun
  | [d] => { results := [.lit (.bool false)], args := [d] }
  | _ => none }
def FnExactValidCaseWrongFalsely : Prop := fnExactValidCaseRow.holds Try.pinned (OpenSpec.ofChange fnExactValidCaseWrong)

/-- 'laws.FnExactMovedBooks': WHATEVER THE INPUT: true; the input reads as it did. -/
def fnExactMovedBooksSpec : ChangeSpec := { name := "fnExactMovedBooks", fn := fun _ => fun
  | [d1, d2] => { results := [.lit (.bool true)], args := [d1, d2] }
  | _ => none }
def fnExactMovedBooksRow : OpenClaim := { program := "ytdippdkneeocfaa", sum := "57accbfbe5fa4d302b80cc399b736a3fcad88eb0a82edc2e5e6ce4d8c8249f6d", func := "loop.example/g01326/laws.FnExactMovedBooks", spec := "fnExactMovedBooks", unfollowed := true, recurses := true, apart := false }
def FnExactMovedBooksSaid : Prop := fnExactMovedBooksRow.holds Try.pinned (OpenSpec.ofChange fnExactMovedBooksSpec)

/-- ITS FALSE NEIGHBOUR: 'it returns false'. Refute it at one input. -/
def fnExactMovedBooksWrong : ChangeSpec := { name := "fnExactMovedBooks", fn := fun _ => fun
  | [d1, d2] => { results := [.lit (.bool false)], args := [d1, d2] }
  | _ => none }
def FnExactMovedBooksWrongFalsely : Prop := fnExactMovedBooksRow.holds Try.pinned (OpenSpec.ofChange fnExactMovedBooksWrong)

/-- 'laws.FnExactFitsOn': WHATEVER THE INPUT: true; the input reads as it did. -/
def fnExactFitsOnSpec : ChangeSpec := { name := "fnExactFitsOn", fn := fun _ => fun
  | [d1, d2, d3] => { results := [.lit (.bool true)], args := [d1, d2, d3] }
  | _ => none }
def fnExactFitsOnRow : OpenClaim := { program := "ytdippdkneeocfaa", sum := "57accbfbe5fa4d302b80cc399b736a3fcad88eb0a82edc2e5e6ce4d8c8249f6d", func := "loop.example/g01326/laws.FnExactFitsOn", spec := "fnExactFitsOn", unfollowed := true, recurses := true, apart := false }
def FnExactFitsOnSaid : Prop := fnExactFitsOnRow.holds Try.pinned (OpenSpec.ofChange fnExactFitsOnSpec)

/-- ITS FALSE NEIGHBOUR: 'it returns false'. Refute it at one input. -/
def fnExactFitsOnWrong : ChangeSpec := { name := "fnExactFitsOn", fn := fun _ => fun
  | [d1, d2, d3] => { results := [.lit (.bool false)], args := [d1, d2, d3] }
  | _ => none }
def FnExactFitsOnWrongFalsely : Prop := fnExactFitsOnRow.holds Try.pinned (OpenSpec.ofChange fnExactFitsOnWrong)

/-- 'laws.FnExactCheckLayout': WHATEVER THE INPUT: true; the input reads as it did. -/
def fnExactCheckLayoutSpec : ChangeSpec := { name := "fnExactCheckLayout", fn := fun _ => fun
  | [d1, d2, d3] => { results := [.lit (.bool true)], args := [d1, d2, d3] }
  | _ => none }
def fnExactCheckLayoutRow : OpenClaim := { program := "ytdippdkneeocfaa", sum := "57accbfbe5fa4d302b80cc399b736a3fcad88eb0a82edc2e5e6ce4d8c8249f6d", func := "loop.example/g01326/laws.FnExactCheckLayout", spec := "fnExactCheckLayout", unfollowed := true, recurses := true, apart := false }
def FnExactCheckLayoutSaid : Prop := fnExactCheckLayoutRow.holds Try.pinned (OpenSpec.ofChange fnExactCheckLayoutSpec)

/-- ITS FALSE NEIGHBOUR: 'it returns false'. Refute it at one input. -/
def fnExactCheckLayoutWrong : ChangeSpec := { name := "fnExactCheckLayout", fn := fun _ => fun
  | [d1, d2, d3] => { results := [.lit (.bool false)], args := [d1, d2, d3] }
  | _ => none }
def FnExactCheckLayoutWrongFalsely : Prop := fnExactCheckLayoutRow.holds Try.pinned (OpenSpec.ofChange fnExactCheckLayoutWrong)

/-- 'laws.FnExactFirstBadShelf': WHATEVER THE INPUT: true; the input reads as it did. -/
def fnExactFirstBadShelfSpec : ChangeSpec := { name := "fnExactFirstBadShelf", fn := fun _ => fun
  | [d1, d2, d3] => { results := [.lit (.bool true)], args := [d1, d2, d3] }
  | _ => none }
def fnExactFirstBadShelfRow : OpenClaim := { program := "ytdippdkneeocfaa", sum := "57accbfbe5fa4d302b80cc399b736a3fcad88eb0a82edc2e5e6ce4d8c8249f6d", func := "loop.example/g01326/laws.FnExactFirstBadShelf", spec := "fnExactFirstBadShelf", unfollowed := true, recurses := true, apart := false }
def FnExactFirstBadShelfSaid : Prop := fnExactFirstBadShelfRow.holds Try.pinned (OpenSpec.ofChange fnExactFirstBadShelfSpec)

/-- ITS FALSE NEIGHBOUR: 'it returns false'. Refute it at one input. -/
def fnExactFirstBadShelfWrong : ChangeSpec := { name := "fnExactFirstBadShelf", fn := fun _ => fun
  | [d1, d2, d3] => { results := [.lit (.bool false)], args := [d1, d2, d3] }
  | _ => none }
def FnExactFirstBadShelfWrongFalsely : Prop := fnExactFirstBadShelfRow.holds Try.pinned (OpenSpec.ofChange fnExactFirstBadShelfWrong)

/-- 'laws.FnExactFillShelves': WHATEVER THE INPUT: true; the input reads as it did. -/
def fnExactFillShelvesSpec : ChangeSpec := { name := "fnExactFillShelves", fn := fun _ => fun
  | [d1, d2] => { results := [.lit (.bool true)], args := [d1, d2] }
  | _ => none }
def fnExactFillShelvesRow : OpenClaim := { program := "ytdippdkneeocfaa", sum := "57accbfbe5fa4d302b80cc399b736a3fcad88eb0a82edc2e5e6ce4d8c8249f6d", func := "loop.example/g01326/laws.FnExactFillShelves", spec := "fnExactFillShelves", unfollowed := true, recurses := true, apart := false }
def FnExactFillShelvesSaid : Prop := fnExactFillShelvesRow.holds Try.pinned (OpenSpec.ofChange fnExactFillShelvesSpec)

/-- ITS FALSE NEIGHBOUR: 'it returns false'. Refute it at one input. -/
def fnExactFillShelvesWrong : ChangeSpec := { name := "fnExactFillShelves", fn := fun _ => fun
  | [d1, d2] => { results := [.lit (.bool false)], args := [d1, d2] }
  | _ => none }
def FnExactFillShelvesWrongFalsely : Prop := fnExactFillShelvesRow.holds Try.pinned (OpenSpec.ofChange fnExactFillShelvesWrong)

/-- 'laws.FnExactBookAt': WHATEVER THE INPUT: true; the input reads as it did. -/
def fnExactBookAtSpec : ChangeSpec := { name := "fnExactBookAt", fn := fun _ => fun
  | [d1, d2, d3, d4, d5] => { results := [.lit (.bool true)], args := [d1, d2, d3, d4, d5] }
  | _ => none }
def fnExactBookAtRow : OpenClaim := { program := "ytdippdkneeocfaa", sum := "57accbfbe5fa4d302b80cc399b736a3fcad88eb0a82edc2e5e6ce4d8c8249f6d", func := "loop.example/g01326/laws.FnExactBookAt", spec := "fnExactBookAt", unfollowed := true, recurses := true, apart := false }
def FnExactBookAtSaid : Prop := fnExactBookAtRow.holds Try.pinned (OpenSpec.ofChange fnExactBookAtSpec)

/-- ITS FALSE NEIGHBOUR: 'it returns false'. Refute it at one input. -/
def fnExactBookAtWrong : ChangeSpec := { name := "fnExactBookAt", fn := fun _ => fun
  | [d1, d2, d3, d4, d5] => { results := [.lit (.bool false)], args := [d1, d2, d3, d4, d5] }
  | _ => none }
def FnExactBookAtWrongFalsely : Prop := fnExactBookAtRow.holds Try.pinned (OpenSpec.ofChange fnExactBookAtWrong)

/-- 'laws.FnExactWhereIs': WHATEVER THE INPUT: true; the input reads as it did. -/
def fnExactWhereIsSpec : ChangeSpec := { name := "fnExactWhereIs", fn := fun _ => fun
  | [d1, d2, d3, d4] => { results := [.lit (.bool true)], args := [d1, d2, d3, d4] }
  | _ => none }
def fnExactWhereIsRow : OpenClaim := { program := "ytdippdkneeocfaa", sum := "57accbfbe5fa4d302b80cc399b736a3fcad88eb0a82edc2e5e6ce4d8c8249f6d", func := "loop.example/g01326/laws.FnExactWhereIs", spec := "fnExactWhereIs", unfollowed := true, recurses := true, apart := false }
def FnExactWhereIsSaid : Prop := fnExactWhereIsRow.holds Try.pinned (OpenSpec.ofChange fnExactWhereIsSpec)

/-- ITS FALSE NEIGHBOUR: 'it returns false'. Refute it at one input. -/
def fnExactWhereIsWrong : ChangeSpec := { name := "fnExactWhereIs", fn := fun _ => fun
  | [d1, d2, d3, d4] => { results := [.lit (.bool false)], args := [d1, d2, d3, d4] }
  | _ => none }
def FnExactWhereIsWrongFalsely : Prop := fnExactWhereIsRow.holds Try.pinned (OpenSpec.ofChange fnExactWhereIsWrong)

/-- 'laws.FnExactUsedShelves': WHATEVER THE INPUT: true; the input reads as it did. -/
def fnExactUsedShelvesSpec : ChangeSpec := { name := "fnExactUsedShelves", fn := fun _ => fun
  | [d1, d2, d3] => { results := [.lit (.bool true)], args := [d1, d2, d3] }
  | _ => none }
def fnExactUsedShelvesRow : OpenClaim := { program := "ytdippdkneeocfaa", sum := "57accbfbe5fa4d302b80cc399b736a3fcad88eb0a82edc2e5e6ce4d8c8249f6d", func := "loop.example/g01326/laws.FnExactUsedShelves", spec := "fnExactUsedShelves", unfollowed := true, recurses := true, apart := false }
def FnExactUsedShelvesSaid : Prop := fnExactUsedShelvesRow.holds Try.pinned (OpenSpec.ofChange fnExactUsedShelvesSpec)

/-- ITS FALSE NEIGHBOUR: 'it returns false'. Refute it at one input. -/
def fnExactUsedShelvesWrong : ChangeSpec := { name := "fnExactUsedShelves", fn := fun _ => fun
  | [d1, d2, d3] => { results := [.lit (.bool false)], args := [d1, d2, d3] }
  | _ => none }
def FnExactUsedShelvesWrongFalsely : Prop := fnExactUsedShelvesRow.holds Try.pinned (OpenSpec.ofChange fnExactUsedShelvesWrong)

/-- 'laws.FnExactShelfOfClass': WHATEVER THE INPUT: true; the input reads as it did. -/
def fnExactShelfOfClassSpec : ChangeSpec := { name := "fnExactShelfOfClass", fn := fun _ => fun
  | [d1, d2, d3, d4] => { results := [.lit (.bool true)], args := [d1, d2, d3, d4] }
  | _ => none }
def fnExactShelfOfClassRow : OpenClaim := { program := "ytdippdkneeocfaa", sum := "57accbfbe5fa4d302b80cc399b736a3fcad88eb0a82edc2e5e6ce4d8c8249f6d", func := "loop.example/g01326/laws.FnExactShelfOfClass", spec := "fnExactShelfOfClass", unfollowed := true, recurses := true, apart := false }
def FnExactShelfOfClassSaid : Prop := fnExactShelfOfClassRow.holds Try.pinned (OpenSpec.ofChange fnExactShelfOfClassSpec)

/-- ITS FALSE NEIGHBOUR: 'it returns false'. Refute it at one input. -/
def fnExactShelfOfClassWrong : ChangeSpec := { name := "fnExactShelfOfClass", fn := fun _ => fun
  | [d1, d2, d3, d4] => { results := [.lit (.bool false)], args := [d1, d2, d3, d4] }
  | _ => none }
def FnExactShelfOfClassWrongFalsely : Prop := fnExactShelfOfClassRow.holds Try.pinned (OpenSpec.ofChange fnExactShelfOfClassWrong)

/-- 'laws.FnExactCostOf': WHATEVER THE INPUT: true; the input reads as it did. -/
def fnExactCostOfSpec : ChangeSpec := { name := "fnExactCostOf", fn := fun _ => fun
  | [d1, d2, d3] => { results := [.lit (.bool true)], args := [d1, d2, d3] }
  | _ => none }
def fnExactCostOfRow : OpenClaim := { program := "ytdippdkneeocfaa", sum := "57accbfbe5fa4d302b80cc399b736a3fcad88eb0a82edc2e5e6ce4d8c8249f6d", func := "loop.example/g01326/laws.FnExactCostOf", spec := "fnExactCostOf", unfollowed := true, recurses := true, apart := false }
def FnExactCostOfSaid : Prop := fnExactCostOfRow.holds Try.pinned (OpenSpec.ofChange fnExactCostOfSpec)

/-- ITS FALSE NEIGHBOUR: 'it returns false'. Refute it at one input. -/
def fnExactCostOfWrong : ChangeSpec := { name := "fnExactCostOf", fn := fun _ => fun
  | [d1, d2, d3] => { results := [.lit (.bool false)], args := [d1, d2, d3] }
  | _ => none }
def FnExactCostOfWrongFalsely : Prop := fnExactCostOfRow.holds Try.pinned (OpenSpec.ofChange fnExactCostOfWrong)

/-- 'laws.FnExactCheckTable': WHATEVER THE INPUT: true; the input reads as it did. -/
def fnExactCheckTableSpec : ChangeSpec := { name := "fnExactCheckTable", fn := fun _ => fun
  | [d1, d2, d3] => { results := [.lit (.bool true)], args := [d1, d2, d3] }
  | _ => none }
def fnExactCheckTableRow : OpenClaim := { program := "ytdippdkneeocfaa", sum := "57accbfbe5fa4d302b80cc399b736a3fcad88eb0a82edc2e5e6ce4d8c8249f6d", func := "loop.example/g01326/laws.FnExactCheckTable", spec := "fnExactCheckTable", unfollowed := true, recurses := true, apart := false }
def FnExactCheckTableSaid : Prop := fnExactCheckTableRow.holds Try.pinned (OpenSpec.ofChange fnExactCheckTableSpec)

/-- ITS FALSE NEIGHBOUR: 'it returns false'. Refute it at one input. -/
def fnExactCheckTableWrong : ChangeSpec := { name := "fnExactCheckTable", fn := fun _ => fun
  | [d1, d2, d3] => { results := [.lit (.bool false)], args := [d1, d2, d3] }
  | _ => none }
def FnExactCheckTableWrongFalsely : Prop := fnExactCheckTableRow.holds Try.pinned (OpenSpec.ofChange fnExactCheckTableWrong)

/-- 'laws.FnExactFreeOn': WHATEVER THE INPUT: true; the input reads as it did. -/
def fnExactFreeOnSpec : ChangeSpec := { name := "fnExactFreeOn", fn := fun _ => fun
  | [d1, d2, d3] => { results := [.lit (.bool true)], args := [d1, d2, d3] }
  | _ => none }
def fnExactFreeOnRow : OpenClaim := { program := "ytdippdkneeocfaa", sum := "57accbfbe5fa4d302b80cc399b736a3fcad88eb0a82edc2e5e6ce4d8c8249f6d", func := "loop.example/g01326/laws.FnExactFreeOn", spec := "fnExactFreeOn", unfollowed := true, recurses := true, apart := false }
def FnExactFreeOnSaid : Prop := fnExactFreeOnRow.holds Try.pinned (OpenSpec.ofChange fnExactFreeOnSpec)

/-- ITS FALSE NEIGHBOUR: 'it returns false'. Refute it at one input. -/
def fnExactFreeOnWrong : ChangeSpec := { name := "fnExactFreeOn", fn := fun _ => fun
  | [d1, d2, d3] => { results := [.lit (.bool false)], args := [d1, d2, d3] }
  | _ => none }
def FnExactFreeOnWrongFalsely : Prop := fnExactFreeOnRow.holds Try.pinned (OpenSpec.ofChange fnExactFreeOnWrong)

/-- 'laws.FnExactProvedCost': WHATEVER THE INPUT: true; the input reads as it did. -/
def fnExactProvedCostSpec : ChangeSpec := { name := "fnExactProvedCost", fn := fun _ => fun
  | [d1, d2, d3] => { results := [.lit (.bool true)], args := [d1, d2, d3] }
  | _ => none }
def fnExactProvedCostRow : OpenClaim := { program := "ytdippdkneeocfaa", sum := "57accbfbe5fa4d302b80cc399b736a3fcad88eb0a82edc2e5e6ce4d8c8249f6d", func := "loop.example/g01326/laws.FnExactProvedCost", spec := "fnExactProvedCost", unfollowed := true, recurses := true, apart := false }
def FnExactProvedCostSaid : Prop := fnExactProvedCostRow.holds Try.pinned (OpenSpec.ofChange fnExactProvedCostSpec)

/-- ITS FALSE NEIGHBOUR: 'it returns false'. Refute it at one input. -/
def fnExactProvedCostWrong : ChangeSpec := { name := "fnExactProvedCost", fn := fun _ => fun
  | [d1, d2, d3] => { results := [.lit (.bool false)], args := [d1, d2, d3] }
  | _ => none }
def FnExactProvedCostWrongFalsely : Prop := fnExactProvedCostRow.holds Try.pinned (OpenSpec.ofChange fnExactProvedCostWrong)

/-- 'laws.FnStanding': WHATEVER THE INPUT: true; the input reads as it did. -/
def fnStandingSpec : ChangeSpec := { name := "fnStanding", fn := fun _ => fun
  | [d1, d2] => { results := [.lit (.bool true)], args := [d1, d2] }
  | _ => none }
def fnStandingRow : OpenClaim := { program := "ytdippdkneeocfaa", sum := "57accbfbe5fa4d302b80cc399b736a3fcad88eb0a82edc2e5e6ce4d8c8249f6d", func := "loop.example/g01326/laws.FnStanding", spec := "fnStanding", unfollowed := true, recurses := true, apart := false }
def FnStandingSaid : Prop := fnStandingRow.holds Try.pinned (OpenSpec.ofChange fnStandingSpec)

/-- ITS FALSE NEIGHBOUR: 'it returns false'. Refute it at one input. -/
def fnStandingWrong : ChangeSpec := { name := "fnStanding", fn := fun _ => fun
  | [d1, d2] => { results := [.lit (.bool false)], args := [d1, d2] }
  | _ => none }
def FnStandingWrongFalsely : Prop := fnStandingRow.holds Try.pinned (OpenSpec.ofChange fnStandingWrong)

/-- 'laws.FnExactTableOf': WHATEVER THE INPUT: true; the input reads as it did. -/
def fnExactTableOfSpec : ChangeSpec := { name := "fnExactTableOf", fn := fun _ => fun
  | [d1, d2] => { results := [.lit (.bool true)], args := [d1, d2] }
  | _ => none }
def fnExactTableOfRow : OpenClaim := { program := "ytdippdkneeocfaa", sum := "57accbfbe5fa4d302b80cc399b736a3fcad88eb0a82edc2e5e6ce4d8c8249f6d", func := "loop.example/g01326/laws.FnExactTableOf", spec := "fnExactTableOf", inPlace := ["slices.overlaps[[]int64]"], unfollowed := true, recurses := true, apart := false }
def FnExactTableOfSaid : Prop := fnExactTableOfRow.holds Try.pinned (OpenSpec.ofChange fnExactTableOfSpec)

/-- ITS FALSE NEIGHBOUR: 'it returns false'. Refute it at one input. -/
def fnExactTableOfWrong : ChangeSpec := { name := "fnExactTableOf", fn := fun _ => fun
  | [d1, d2] => { results := [.lit (.bool false)], args := [d1, d2] }
  | _ => none }
def FnExactTableOfWrongFalsely : Prop := fnExactTableOfRow.holds Try.pinned (OpenSpec.ofChange fnExactTableOfWrong)

/-- 'laws.FnExactFewestShelves': WHATEVER THE INPUT: true; the input reads as it did. -/
def fnExactFewestShelvesSpec : ChangeSpec := { name := "fnExactFewestShelves", fn := fun _ => fun
  | [d1, d2] => { results := [.lit (.bool true)], args := [d1, d2] }
  | _ => none }
def fnExactFewestShelvesRow : OpenClaim := { program := "ytdippdkneeocfaa", sum := "57accbfbe5fa4d302b80cc399b736a3fcad88eb0a82edc2e5e6ce4d8c8249f6d", func := "loop.example/g01326/laws.FnExactFewestShelves", spec := "fnExactFewestShelves", inPlace := ["slices.overlaps[[]int64]"], unfollowed := true, recurses := true, apart := false }
def FnExactFewestShelvesSaid : Prop := fnExactFewestShelvesRow.holds Try.pinned (OpenSpec.ofChange fnExactFewestShelvesSpec)

/-- ITS FALSE NEIGHBOUR: 'it returns false'. Refute it at one input. -/
def fnExactFewestShelvesWrong : ChangeSpec := { name := "fnExactFewestShelves", fn := fun _ => fun
  | [d1, d2] => { results := [.lit (.bool false)], args := [d1, d2] }
  | _ => none }
def FnExactFewestShelvesWrongFalsely : Prop := fnExactFewestShelvesRow.holds Try.pinned (OpenSpec.ofChange fnExactFewestShelvesWrong)

/-- 'laws.FnExactLeastCost': WHATEVER THE INPUT: true; the input reads as it did. -/
def fnExactLeastCostSpec : ChangeSpec := { name := "fnExactLeastCost", fn := fun _ => fun
  | [d1, d2] => { results := [.lit (.bool true)], args := [d1, d2] }
  | _ => none }
def fnExactLeastCostRow : OpenClaim := { program := "ytdippdkneeocfaa", sum := "57accbfbe5fa4d302b80cc399b736a3fcad88eb0a82edc2e5e6ce4d8c8249f6d", func := "loop.example/g01326/laws.FnExactLeastCost", spec := "fnExactLeastCost", inPlace := ["slices.overlaps[[]int64]"], unfollowed := true, recurses := true, apart := false }
def FnExactLeastCostSaid : Prop := fnExactLeastCostRow.holds Try.pinned (OpenSpec.ofChange fnExactLeastCostSpec)

/-- ITS FALSE NEIGHBOUR: 'it returns false'. Refute it at one input. -/
def fnExactLeastCostWrong : ChangeSpec := { name := "fnExactLeastCost", fn := fun _ => fun
  | [d1, d2] => { results := [.lit (.bool false)], args := [d1, d2] }
  | _ => none }
def FnExactLeastCostWrongFalsely : Prop := fnExactLeastCostRow.holds Try.pinned (OpenSpec.ofChange fnExactLeastCostWrong)

/-- 'laws.FnBestLayouts': WHATEVER THE INPUT: true; the input reads as it did. -/
def fnBestLayoutsSpec : ChangeSpec := { name := "fnBestLayouts", fn := fun _ => fun
  | [d1, d2] => { results := [.lit (.bool true)], args := [d1, d2] }
  | _ => none }
def fnBestLayoutsRow : OpenClaim := { program := "ytdippdkneeocfaa", sum := "57accbfbe5fa4d302b80cc399b736a3fcad88eb0a82edc2e5e6ce4d8c8249f6d", func := "loop.example/g01326/laws.FnBestLayouts", spec := "fnBestLayouts", inPlace := ["slices.overlaps[[]int64]"], unfollowed := true, recurses := true, apart := false }
def FnBestLayoutsSaid : Prop := fnBestLayoutsRow.holds Try.pinned (OpenSpec.ofChange fnBestLayoutsSpec)

/-- ITS FALSE NEIGHBOUR: 'it returns false'. Refute it at one input. -/
def fnBestLayoutsWrong : ChangeSpec := { name := "fnBestLayouts", fn := fun _ => fun
  | [d1, d2] => { results := [.lit (.bool false)], args := [d1, d2] }
  | _ => none }
def FnBestLayoutsWrongFalsely : Prop := fnBestLayoutsRow.holds Try.pinned (OpenSpec.ofChange fnBestLayoutsWrong)

/- THE SECOND FORM. 'bulk': how many values and letters a reading holds, each counted each time it is reached (what is shared counts as often as it is met; a slice's spare places count too). A statement '..UptoSaid' is the law's where the arguments, and the package variables that the reading takes, are together of bulk at most 1048576: NARROWER than '..Said'. Prove '..Said' where nothing that the law and all that it calls make is longer than what came in: it says more and counts as full. Else prove '..UptoSaid'. A law counts once. -/
mutual
def uptoBulk {H : Type} : DataW H → Nat
  | .lit (.string bytes) => bytes.length + 1
  | .lit _ => 1
  | .nil => 1
  | .ptr d => uptoBulk d + 1
  | .slice elems spare => uptoBulkAll elems + uptoBulkAll spare + 1
  | .agg parts => uptoBulkAll parts + 1
  | .iface _ d => uptoBulk d + 1
  | .map entries => uptoBulkEntries entries + 1
  | .held _ => 1
def uptoBulkAll {H : Type} : List (DataW H) → Nat
  | [] => 0
  | d :: r => uptoBulk d + uptoBulkAll r
def uptoBulkEntries {H : Type} : List (Lit × DataW H) → Nat
  | [] => 0
  | x :: r => uptoBulkEntry x + uptoBulkEntries r
def uptoBulkEntry {H : Type} : Lit × DataW H → Nat
  | (.string bytes, d) => bytes.length + uptoBulk d + 1
  | (_, d) => uptoBulk d + 1
 end
def uptoSmall : (H : Type) → List (DataW H) → Bool := fun _ ds => decide (uptoBulkAll ds ≤ 1048576)
def OpenSpec.upto (s : _root_.Go.ChangeSpec) : _root_.Go.OpenSpec := { _root_.Go.OpenSpec.ofChange s with cond := some uptoSmall }

/-- 'laws.FnExactValidBook', WHERE WHAT IT READS IS OF BULK AT MOST 1048576: true; the input reads as it did. -/
def fnExactValidBookUptoRow : OpenClaim := { program := "ytdippdkneeocfaa", sum := "57accbfbe5fa4d302b80cc399b736a3fcad88eb0a82edc2e5e6ce4d8c8249f6d", func := "loop.example/g01326/laws.FnExactValidBook", spec := "fnExactValidBook", unfollowed := true, recurses := true, apart := false, narrowed := true }
def FnExactValidBookUptoSaid : Prop := fnExactValidBookUptoRow.holds Try.pinned (OpenSpec.upto fnExactValidBookSpec)

/-- 'laws.FnExactSameBooks', WHERE WHAT IT READS IS OF BULK AT MOST 1048576: true; the input reads as it did. -/
def fnExactSameBooksUptoRow : OpenClaim := { program := "ytdippdkneeocfaa", sum := "57accbfbe5fa4d302b80cc399b736a3fcad88eb0a82edc2e5e6ce4d8c8249f6d", func := "loop.example/g01326/laws.FnExactSameBooks", spec := "fnExactSameBooks", apart := false, narrowed := true }
def FnExactSameBooksUptoSaid : Prop := fnExactSameBooksUptoRow.holds Try.pinned (OpenSpec.upto fnExactSameBooksSpec)

/-- 'laws.FnExactSwapAll', WHERE WHAT IT READS IS OF BULK AT MOST 1048576: true; the input reads as it did. -/
def fnExactSwapAllUptoRow : OpenClaim := { program := "ytdippdkneeocfaa", sum := "57accbfbe5fa4d302b80cc399b736a3fcad88eb0a82edc2e5e6ce4d8c8249f6d", func := "loop.example/g01326/laws.FnExactSwapAll", spec := "fnExactSwapAll", unfollowed := true, recurses := true, apart := false, narrowed := true }
def FnExactSwapAllUptoSaid : Prop := fnExactSwapAllUptoRow.holds Try.pinned (OpenSpec.upto fnExactSwapAllSpec)

/-- 'laws.FnExactSameCase', WHERE WHAT IT READS IS OF BULK AT MOST 1048576: true; the input reads as it did. -/
def fnExactSameCaseUptoRow : OpenClaim := { program := "ytdippdkneeocfaa", sum := "57accbfbe5fa4d302b80cc399b736a3fcad88eb0a82edc2e5e6ce4d8c8249f6d", func := "loop.example/g01326/laws.FnExactSameCase", spec := "fnExactSameCase", apart := false, narrowed := true }
def FnExactSameCaseUptoSaid : Prop := fnExactSameCaseUptoRow.holds Try.pinned (OpenSpec.upto fnExactSameCaseSpec)

/-- 'laws.FnExactValidCase', WHERE WHAT IT READS IS OF BULK AT MOST 1048576: true; the input reads as it did. -/
def fnExactValidCaseUptoRow : OpenClaim := { program := "ytdippdkneeocfaa", sum := "57accbfbe5fa4d302b80cc399b736a3fcad88eb0a82edc2e5e6ce4d8c8249f6d", func := "loop.example/g01326/laws.FnExactValidCase", spec := "fnExactValidCase", unfollowed := true, recurses := true, apart := false, narrowed := true }
def FnExactValidCaseUptoSaid : Prop := fnExactValidCaseUptoRow.holds Try.pinned (OpenSpec.upto fnExactValidCaseSpec)

/-- 'laws.FnExactMovedBooks', WHERE WHAT IT READS IS OF BULK AT MOST 1048576: true; the input reads as it did. -/
def fnExactMovedBooksUptoRow : OpenClaim := { program := "ytdippdkneeocfaa", sum := "57accbfbe5fa4d302b80cc399b736a3fcad88eb0a82edc2e5e6ce4d8c8249f6d", func := "loop.example/g01326/laws.FnExactMovedBooks", spec := "fnExactMovedBooks", unfollowed := true, recurses := true, apart := false, narrowed := true }
def FnExactMovedBooksUptoSaid : Prop := fnExactMovedBooksUptoRow.holds Try.pinned (OpenSpec.upto fnExactMovedBooksSpec)

/-- 'laws.FnExactFitsOn', WHERE WHAT IT READS IS OF BULK AT MOST 1048576: true; the input reads as it did. -/
def fnExactFitsOnUptoRow : OpenClaim := { program := "ytdippdkneeocfaa", sum := "57accbfbe5fa4d302b80cc399b736a3fcad88eb0a82edc2e5e6ce4d8c8249f6d", func := "loop.example/g01326/laws.FnExactFitsOn", spec := "fnExactFitsOn", unfollowed := true, recurses := true, apart := false, narrowed := true }
def FnExactFitsOnUptoSaid : Prop := fnExactFitsOnUptoRow.holds Try.pinned (OpenSpec.upto fnExactFitsOnSpec)

/-- 'laws.FnExactCheckLayout', WHERE WHAT IT READS IS OF BULK AT MOST 1048576: true; the input reads as it did. -/
def fnExactCheckLayoutUptoRow : OpenClaim := { program := "ytdippdkneeocfaa", sum := "57accbfbe5fa4d302b80cc399b736a3fcad88eb0a82edc2e5e6ce4d8c8249f6d", func := "loop.example/g01326/laws.FnExactCheckLayout", spec := "fnExactCheckLayout", unfollowed := true, recurses := true, apart := false, narrowed := true }
def FnExactCheckLayoutUptoSaid : Prop := fnExactCheckLayoutUptoRow.holds Try.pinned (OpenSpec.upto fnExactCheckLayoutSpec)

/-- 'laws.FnExactFirstBadShelf', WHERE WHAT IT READS IS OF BULK AT MOST 1048576: true; the input reads as it did. -/
def fnExactFirstBadShelfUptoRow : OpenClaim := { program := "ytdippdkneeocfaa", sum := "57accbfbe5fa4d302b80cc399b736a3fcad88eb0a82edc2e5e6ce4d8c8249f6d", func := "loop.example/g01326/laws.FnExactFirstBadShelf", spec := "fnExactFirstBadShelf", unfollowed := true, recurses := true, apart := false, narrowed := true }
def FnExactFirstBadShelfUptoSaid : Prop := fnExactFirstBadShelfUptoRow.holds Try.pinned (OpenSpec.upto fnExactFirstBadShelfSpec)

/-- 'laws.FnExactFillShelves', WHERE WHAT IT READS IS OF BULK AT MOST 1048576: true; the input reads as it did. -/
def fnExactFillShelvesUptoRow : OpenClaim := { program := "ytdippdkneeocfaa", sum := "57accbfbe5fa4d302b80cc399b736a3fcad88eb0a82edc2e5e6ce4d8c8249f6d", func := "loop.example/g01326/laws.FnExactFillShelves", spec := "fnExactFillShelves", unfollowed := true, recurses := true, apart := false, narrowed := true }
def FnExactFillShelvesUptoSaid : Prop := fnExactFillShelvesUptoRow.holds Try.pinned (OpenSpec.upto fnExactFillShelvesSpec)

/-- 'laws.FnExactBookAt', WHERE WHAT IT READS IS OF BULK AT MOST 1048576: true; the input reads as it did. -/
def fnExactBookAtUptoRow : OpenClaim := { program := "ytdippdkneeocfaa", sum := "57accbfbe5fa4d302b80cc399b736a3fcad88eb0a82edc2e5e6ce4d8c8249f6d", func := "loop.example/g01326/laws.FnExactBookAt", spec := "fnExactBookAt", unfollowed := true, recurses := true, apart := false, narrowed := true }
def FnExactBookAtUptoSaid : Prop := fnExactBookAtUptoRow.holds Try.pinned (OpenSpec.upto fnExactBookAtSpec)

/-- 'laws.FnExactWhereIs', WHERE WHAT IT READS IS OF BULK AT MOST 1048576: true; the input reads as it did. -/
def fnExactWhereIsUptoRow : OpenClaim := { program := "ytdippdkneeocfaa", sum := "57accbfbe5fa4d302b80cc399b736a3fcad88eb0a82edc2e5e6ce4d8c8249f6d", func := "loop.example/g01326/laws.FnExactWhereIs", spec := "fnExactWhereIs", unfollowed := true, recurses := true, apart := false, narrowed := true }
def FnExactWhereIsUptoSaid : Prop := fnExactWhereIsUptoRow.holds Try.pinned (OpenSpec.upto fnExactWhereIsSpec)

/-- 'laws.FnExactUsedShelves', WHERE WHAT IT READS IS OF BULK AT MOST 1048576: true; the input reads as it did. -/
def fnExactUsedShelvesUptoRow : OpenClaim := { program := "ytdippdkneeocfaa", sum := "57accbfbe5fa4d302b80cc399b736a3fcad88eb0a82edc2e5e6ce4d8c8249f6d", func := "loop.example/g01326/laws.FnExactUsedShelves", spec := "fnExactUsedShelves", unfollowed := true, recurses := true, apart := false, narrowed := true }
def FnExactUsedShelvesUptoSaid : Prop := fnExactUsedShelvesUptoRow.holds Try.pinned (OpenSpec.upto fnExactUsedShelvesSpec)

/-- 'laws.FnExactShelfOfClass', WHERE WHAT IT READS IS OF BULK AT MOST 1048576: true; the input reads as it did. -/
def fnExactShelfOfClassUptoRow : OpenClaim := { program := "ytdippdkneeocfaa", sum := "57accbfbe5fa4d302b80cc399b736a3fcad88eb0a82edc2e5e6ce4d8c8249f6d", func := "loop.example/g01326/laws.FnExactShelfOfClass", spec := "fnExactShelfOfClass", unfollowed := true, recurses := true, apart := false, narrowed := true }
def FnExactShelfOfClassUptoSaid : Prop := fnExactShelfOfClassUptoRow.holds Try.pinned (OpenSpec.upto fnExactShelfOfClassSpec)

/-- 'laws.FnExactCostOf', WHERE WHAT IT READS IS OF BULK AT MOST 1048576: true; the input reads as it did. -/
def fnExactCostOfUptoRow : OpenClaim := { program := "ytdippdkneeocfaa", sum := "57accbfbe5fa4d302b80cc399b736a3fcad88eb0a82edc2e5e6ce4d8c8249f6d", func := "loop.example/g01326/laws.FnExactCostOf", spec := "fnExactCostOf", unfollowed := true, recurses := true, apart := false, narrowed := true }
def FnExactCostOfUptoSaid : Prop := fnExactCostOfUptoRow.holds Try.pinned (OpenSpec.upto fnExactCostOfSpec)

/-- 'laws.FnExactCheckTable', WHERE WHAT IT READS IS OF BULK AT MOST 1048576: true; the input reads as it did. -/
def fnExactCheckTableUptoRow : OpenClaim := { program := "ytdippdkneeocfaa", sum := "57accbfbe5fa4d302b80cc399b736a3fcad88eb0a82edc2e5e6ce4d8c8249f6d", func := "loop.example/g01326/laws.FnExactCheckTable", spec := "fnExactCheckTable", unfollowed := true, recurses := true, apart := false, narrowed := true }
def FnExactCheckTableUptoSaid : Prop := fnExactCheckTableUptoRow.holds Try.pinned (OpenSpec.upto fnExactCheckTableSpec)

/-- 'laws.FnExactFreeOn', WHERE WHAT IT READS IS OF BULK AT MOST 1048576: true; the input reads as it did. -/
def fnExactFreeOnUptoRow : OpenClaim := { program := "ytdippdkneeocfaa", sum := "57accbfbe5fa4d302b80cc399b736a3fcad88eb0a82edc2e5e6ce4d8c8249f6d", func := "loop.example/g01326/laws.FnExactFreeOn", spec := "fnExactFreeOn", unfollowed := true, recurses := true, apart := false, narrowed := true }
def FnExactFreeOnUptoSaid : Prop := fnExactFreeOnUptoRow.holds Try.pinned (OpenSpec.upto fnExactFreeOnSpec)

/-- 'laws.FnExactProvedCost', WHERE WHAT IT READS IS OF BULK AT MOST 1048576: true; the input reads as it did. -/
def fnExactProvedCostUptoRow : OpenClaim := { program := "ytdippdkneeocfaa", sum := "57accbfbe5fa4d302b80cc399b736a3fcad88eb0a82edc2e5e6ce4d8c8249f6d", func := "loop.example/g01326/laws.FnExactProvedCost", spec := "fnExactProvedCost", unfollowed := true, recurses := true, apart := false, narrowed := true }
def FnExactProvedCostUptoSaid : Prop := fnExactProvedCostUptoRow.holds Try.pinned (OpenSpec.upto fnExactProvedCostSpec)

/-- 'laws.FnStanding', WHERE WHAT IT READS IS OF BULK AT MOST 1048576: true; the input reads as it did. -/
def fnStandingUptoRow : OpenClaim := { program := "ytdippdkneeocfaa", sum := "57accbfbe5fa4d302b80cc399b736a3fcad88eb0a82edc2e5e6ce4d8c8249f6d", func := "loop.example/g01326/laws.FnStanding", spec := "fnStanding", unfollowed := true, recurses := true, apart := false, narrowed := true }
def FnStandingUptoSaid : Prop := fnStandingUptoRow.holds Try.pinned (OpenSpec.upto fnStandingSpec)

/-- 'laws.FnExactTableOf', WHERE WHAT IT READS IS OF BULK AT MOST 1048576: true; the input reads as it did. -/
def fnExactTableOfUptoRow : OpenClaim := { program := "ytdippdkneeocfaa", sum := "57accbfbe5fa4d302b80cc399b736a3fcad88eb0a82edc2e5e6ce4d8c8249f6d", func := "loop.example/g01326/laws.FnExactTableOf", spec := "fnExactTableOf", inPlace := ["slices.overlaps[[]int64]"], unfollowed := true, recurses := true, apart := false, narrowed := true }
def FnExactTableOfUptoSaid : Prop := fnExactTableOfUptoRow.holds Try.pinned (OpenSpec.upto fnExactTableOfSpec)

/-- 'laws.FnExactFewestShelves', WHERE WHAT IT READS IS OF BULK AT MOST 1048576: true; the input reads as it did. -/
def fnExactFewestShelvesUptoRow : OpenClaim := { program := "ytdippdkneeocfaa", sum := "57accbfbe5fa4d302b80cc399b736a3fcad88eb0a82edc2e5e6ce4d8c8249f6d", func := "loop.example/g01326/laws.FnExactFewestShelves", spec := "fnExactFewestShelves", inPlace := ["slices.overlaps[[]int64]"], unfollowed := true, recurses := true, apart := false, narrowed := true }
def FnExactFewestShelvesUptoSaid : Prop := fnExactFewestShelvesUptoRow.holds Try.pinned (OpenSpec.upto fnExactFewestShelvesSpec)

/-- 'laws.FnExactLeastCost', WHERE WHAT IT READS IS OF BULK AT MOST 1048576: true; the input reads as it did. -/
def fnExactLeastCostUptoRow : OpenClaim := { program := "ytdippdkneeocfaa", sum := "57accbfbe5fa4d302b80cc399b736a3fcad88eb0a82edc2e5e6ce4d8c8249f6d", func := "loop.example/g01326/laws.FnExactLeastCost", spec := "fnExactLeastCost", inPlace := ["slices.overlaps[[]int64]"], unfollowed := true, recurses := true, apart := false, narrowed := true }
def FnExactLeastCostUptoSaid : Prop := fnExactLeastCostUptoRow.holds Try.pinned (OpenSpec.upto fnExactLeastCostSpec)

/-- 'laws.FnBestLayouts', WHERE WHAT IT READS IS OF BULK AT MOST 1048576: true; the input reads as it did. -/
def fnBestLayoutsUptoRow : OpenClaim := { program := "ytdippdkneeocfaa", sum := "57accbfbe5fa4d302b80cc399b736a3fcad88eb0a82edc2e5e6ce4d8c8249f6d", func := "loop.example/g01326/laws.FnBestLayouts", spec := "fnBestLayouts", inPlace := ["slices.overlaps[[]int64]"], unfollowed := true, recurses := true, apart := false, narrowed := true }
def FnBestLayoutsUptoSaid : Prop := fnBestLayoutsUptoRow.holds Try.pinned (OpenSpec.upto fnBestLayoutsSpec)

end Rows
end Go.Proofs.Ytdippdkneeocfaa
