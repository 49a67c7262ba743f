/-
  No cell of these rows narrows 'for every input' (looked for: loops, veiled, ifaces, maps, wideKeys, modest, calm, conditions, laid).
  DERIVED. THE GIVEN ROWS OF THIS SEAT. 22 by the template 'for every input the law returns true; each argument reads behind the call as it read before'; 0 by the template 'total and deterministic' (their statements: YtgdhopcbiekhhaaTotals.lean).
  GIVEN WITH THE SEED: the statements are not yours to turn. If you find one false, say at which input.
  Laid BY PROGRAM, IN A SANDBOX (cutbox-rows.mjs): the forced cells as the released guide's own fill.sh prints them over the translation 0f4455d42bc74b2f… (all of the seat's roots in one cut). By AI agents, Wed Nov 11 2026. No macro, syntax, notation, axiom, sorry.
-/
import Derived.Test.YtgdhopcbiekhhaaChecked
import GoSem.Claim
import GoSem.ClaimJoined
import GoSem.ClaimMapViews
import Derived.JoinedTies
import Derived.KernelRfl
namespace Go.Proofs.Ytgdhopcbiekhhaa
/- THE CELL 'sum', in the pinned program and in every row, IS THE sha256 OF THE DUMP (.gsa) THAT YtgdhopcbiekhhaaProg.lean LOADS. Nothing in Lean hashes anything: it is a label: what it is worth is what the hold of that sum in a sandbox is worth. -/
noncomputable def Try.pinned : Pinned := { name := "ytgdhopcbiekhhaa", sum := "0f4455d42bc74b2f847323b6d04ebc79ca5250e08e6c4f8dc67eb26d5da1ba17", checked := Try.checked }
namespace Rows
def none {H : Type} : Left H := { results := [], args := [] }

/-- 'laws.FnExactConstants': WHATEVER THE INPUT: true; the input reads as it did. -/
def fnExactConstantsSpec : ChangeSpec := { name := "fnExactConstants", fn := fun _ => fun
  | [] => { results := [.lit (.bool true)], args := [] }
  | _ => none }
def fnExactConstantsRow : OpenClaim := { program := "ytgdhopcbiekhhaa", sum := "0f4455d42bc74b2f847323b6d04ebc79ca5250e08e6c4f8dc67eb26d5da1ba17", func := "loop.example/g01326/laws.FnExactConstants", spec := "fnExactConstants", apart := false }
def FnExactConstantsSaid : Prop := fnExactConstantsRow.holds Try.pinned (OpenSpec.ofChange fnExactConstantsSpec)

/-- ITS FALSE NEIGHBOUR: 'it returns false'. Refute it at one input. -/
def fnExactConstantsWrong : ChangeSpec := { name := "fnExactConstants", fn := fun _ => fun
  | [] => { results := [.lit (.bool false)], args := [] }
  | _ => none }
def FnExactConstantsWrongFalsely : Prop := fnExactConstantsRow.holds Try.pinned (OpenSpec.ofChange fnExactConstantsWrong)

/-- 'laws.FnExactCodeName': WHATEVER THE INPUT: true; the input reads as it did. -/
def fnExactCodeNameSpec : ChangeSpec := { name := "fnExactCodeName", fn := fun _ => fun
  | [d] => { results := [.lit (.bool true)], args := [d] }
  | _ => none }
def fnExactCodeNameRow : OpenClaim := { program := "ytgdhopcbiekhhaa", sum := "0f4455d42bc74b2f847323b6d04ebc79ca5250e08e6c4f8dc67eb26d5da1ba17", func := "loop.example/g01326/laws.FnExactCodeName", spec := "fnExactCodeName", apart := false }
def FnExactCodeNameSaid : Prop := fnExactCodeNameRow.holds Try.pinned (OpenSpec.ofChange fnExactCodeNameSpec)

/-- ITS FALSE NEIGHBOUR: 'it returns false'. Refute it at one input. -/
def fnExactCodeNameWrong : ChangeSpec := { name := "fnExactCodeName", fn := fun _ => fun
  | [d] => { results := [.lit (.bool false)], args := [d] }
  | _ => none }
def FnExactCodeNameWrongFalsely : Prop := fnExactCodeNameRow.holds Try.pinned (OpenSpec.ofChange fnExactCodeNameWrong)

/-- 'laws.FnExactValidOrder': WHATEVER THE INPUT: true; the input reads as it did. -/
def fnExactValidOrderSpec : ChangeSpec := { name := "fnExactValidOrder", fn := fun _ => fun
  | [d] => { results := [.lit (.bool true)], args := [d] }
  | _ => none }
def fnExactValidOrderRow : OpenClaim := { program := "ytgdhopcbiekhhaa", sum := "0f4455d42bc74b2f847323b6d04ebc79ca5250e08e6c4f8dc67eb26d5da1ba17", func := "loop.example/g01326/laws.FnExactValidOrder", spec := "fnExactValidOrder", apart := false }
def FnExactValidOrderSaid : Prop := fnExactValidOrderRow.holds Try.pinned (OpenSpec.ofChange fnExactValidOrderSpec)

/-- ITS FALSE NEIGHBOUR: 'it returns false'. Refute it at one input. -/
def fnExactValidOrderWrong : ChangeSpec := { name := "fnExactValidOrder", fn := fun _ => fun
  | [d] => { results := [.lit (.bool false)], args := [d] }
  | _ => none }
def FnExactValidOrderWrongFalsely : Prop := fnExactValidOrderRow.holds Try.pinned (OpenSpec.ofChange fnExactValidOrderWrong)

/-- 'laws.FnExactValidBook': WHATEVER THE INPUT: true; the input reads as it did. -/
def fnExactValidBookSpec : ChangeSpec := { name := "fnExactValidBook", fn := fun _ => fun
  | [d] => { results := [.lit (.bool true)], args := [d] }
  | _ => none }
def fnExactValidBookRow : OpenClaim := { program := "ytgdhopcbiekhhaa", sum := "0f4455d42bc74b2f847323b6d04ebc79ca5250e08e6c4f8dc67eb26d5da1ba17", func := "loop.example/g01326/laws.FnExactValidBook", spec := "fnExactValidBook", unfollowed := true, recurses := true, apart := false }
def FnExactValidBookSaid : Prop := fnExactValidBookRow.holds Try.pinned (OpenSpec.ofChange fnExactValidBookSpec)

/-- ITS FALSE NEIGHBOUR: 'it returns false'. Refute it at one input. -/
def fnExactValidBookWrong : ChangeSpec := { name := "fnExactValidBook", fn := fun _ => fun
  | [d] => { results := [.lit (.bool false)], args := [d] }
  | _ => none }
def FnExactValidBookWrongFalsely : Prop := fnExactValidBookRow.holds Try.pinned (OpenSpec.ofChange fnExactValidBookWrong)

/-- 'laws.FnExactSameBooks': WHATEVER THE INPUT: true; the input reads as it did. -/
def fnExactSameBooksSpec : ChangeSpec := { name := "fnExactSameBooks", fn := fun _ => fun
  | [d1, d2] => { results := [.lit (.bool true)], args := [d1, d2] }
  | _ => none }
def fnExactSameBooksRow : OpenClaim := { program := "ytgdhopcbiekhhaa", sum := "0f4455d42bc74b2f847323b6d04ebc79ca5250e08e6c4f8dc67eb26d5da1ba17", func := "loop.example/g01326/laws.FnExactSameBooks", spec := "fnExactSameBooks", apart := false }
def FnExactSameBooksSaid : Prop := fnExactSameBooksRow.holds Try.pinned (OpenSpec.ofChange fnExactSameBooksSpec)

/-- ITS FALSE NEIGHBOUR: 'it returns false'. Refute it at one input. -/
def fnExactSameBooksWrong : ChangeSpec := { name := "fnExactSameBooks", fn := fun _ => fun
  | [d1, d2] => { results := [.lit (.bool false)], args := [d1, d2] }
  | _ => none }
def FnExactSameBooksWrongFalsely : Prop := fnExactSameBooksRow.holds Try.pinned (OpenSpec.ofChange fnExactSameBooksWrong)

/-- 'laws.FnExactValidBooks': WHATEVER THE INPUT: true; the input reads as it did. -/
def fnExactValidBooksSpec : ChangeSpec := { name := "fnExactValidBooks", fn := fun _ => fun
  | [d] => { results := [.lit (.bool true)], args := [d] }
  | _ => none }
def fnExactValidBooksRow : OpenClaim := { program := "ytgdhopcbiekhhaa", sum := "0f4455d42bc74b2f847323b6d04ebc79ca5250e08e6c4f8dc67eb26d5da1ba17", func := "loop.example/g01326/laws.FnExactValidBooks", spec := "fnExactValidBooks", unfollowed := true, recurses := true, apart := false }
def FnExactValidBooksSaid : Prop := fnExactValidBooksRow.holds Try.pinned (OpenSpec.ofChange fnExactValidBooksSpec)

/-- ITS FALSE NEIGHBOUR: 'it returns false'. Refute it at one input. -/
def fnExactValidBooksWrong : ChangeSpec := { name := "fnExactValidBooks", fn := fun _ => fun
  | [d] => { results := [.lit (.bool false)], args := [d] }
  | _ => none }
def FnExactValidBooksWrongFalsely : Prop := fnExactValidBooksRow.holds Try.pinned (OpenSpec.ofChange fnExactValidBooksWrong)

/-- 'laws.FnExactCompareBooks': WHATEVER THE INPUT: true; the input reads as it did. -/
def fnExactCompareBooksSpec : ChangeSpec := { name := "fnExactCompareBooks", fn := fun _ => fun
  | [d1, d2] => { results := [.lit (.bool true)], args := [d1, d2] }
  | _ => none }
def fnExactCompareBooksRow : OpenClaim := { program := "ytgdhopcbiekhhaa", sum := "0f4455d42bc74b2f847323b6d04ebc79ca5250e08e6c4f8dc67eb26d5da1ba17", func := "loop.example/g01326/laws.FnExactCompareBooks", spec := "fnExactCompareBooks", apart := false }
def FnExactCompareBooksSaid : Prop := fnExactCompareBooksRow.holds Try.pinned (OpenSpec.ofChange fnExactCompareBooksSpec)

/-- ITS FALSE NEIGHBOUR: 'it returns false'. Refute it at one input. -/
def fnExactCompareBooksWrong : ChangeSpec := { name := "fnExactCompareBooks", fn := fun _ => fun
  | [d1, d2] => { results := [.lit (.bool false)], args := [d1, d2] }
  | _ => none }
def FnExactCompareBooksWrongFalsely : Prop := fnExactCompareBooksRow.holds Try.pinned (OpenSpec.ofChange fnExactCompareBooksWrong)

/-- 'laws.FnExactCountByHundreds': WHATEVER THE INPUT: true; the input reads as it did. -/
def fnExactCountByHundredsSpec : ChangeSpec := { name := "fnExactCountByHundreds", fn := fun _ => fun
  | [d] => { results := [.lit (.bool true)], args := [d] }
  | _ => none }
def fnExactCountByHundredsRow : OpenClaim := { program := "ytgdhopcbiekhhaa", sum := "0f4455d42bc74b2f847323b6d04ebc79ca5250e08e6c4f8dc67eb26d5da1ba17", func := "loop.example/g01326/laws.FnExactCountByHundreds", spec := "fnExactCountByHundreds", unfollowed := true, recurses := true, apart := false }
def FnExactCountByHundredsSaid : Prop := fnExactCountByHundredsRow.holds Try.pinned (OpenSpec.ofChange fnExactCountByHundredsSpec)

/-- ITS FALSE NEIGHBOUR: 'it returns false'. Refute it at one input. -/
def fnExactCountByHundredsWrong : ChangeSpec := { name := "fnExactCountByHundreds", fn := fun _ => fun
  | [d] => { results := [.lit (.bool false)], args := [d] }
  | _ => none }
def FnExactCountByHundredsWrongFalsely : Prop := fnExactCountByHundredsRow.holds Try.pinned (OpenSpec.ofChange fnExactCountByHundredsWrong)

/-- 'laws.FnExactTotalsOf': WHATEVER THE INPUT: true; the input reads as it did. -/
def fnExactTotalsOfSpec : ChangeSpec := { name := "fnExactTotalsOf", fn := fun _ => fun
  | [d] => { results := [.lit (.bool true)], args := [d] }
  | _ => none }
def fnExactTotalsOfRow : OpenClaim := { program := "ytgdhopcbiekhhaa", sum := "0f4455d42bc74b2f847323b6d04ebc79ca5250e08e6c4f8dc67eb26d5da1ba17", func := "loop.example/g01326/laws.FnExactTotalsOf", spec := "fnExactTotalsOf", unfollowed := true, recurses := true, apart := false }
def FnExactTotalsOfSaid : Prop := fnExactTotalsOfRow.holds Try.pinned (OpenSpec.ofChange fnExactTotalsOfSpec)

/-- ITS FALSE NEIGHBOUR: 'it returns false'. Refute it at one input. -/
def fnExactTotalsOfWrong : ChangeSpec := { name := "fnExactTotalsOf", fn := fun _ => fun
  | [d] => { results := [.lit (.bool false)], args := [d] }
  | _ => none }
def FnExactTotalsOfWrongFalsely : Prop := fnExactTotalsOfRow.holds Try.pinned (OpenSpec.ofChange fnExactTotalsOfWrong)

/-- 'laws.FnExactCompareBy': WHATEVER THE INPUT: true; the input reads as it did. -/
def fnExactCompareBySpec : ChangeSpec := { name := "fnExactCompareBy", fn := fun _ => fun
  | [d1, d2, d3] => { results := [.lit (.bool true)], args := [d1, d2, d3] }
  | _ => none }
def fnExactCompareByRow : OpenClaim := { program := "ytgdhopcbiekhhaa", sum := "0f4455d42bc74b2f847323b6d04ebc79ca5250e08e6c4f8dc67eb26d5da1ba17", func := "loop.example/g01326/laws.FnExactCompareBy", spec := "fnExactCompareBy", unfollowed := true, recurses := true, apart := false }
def FnExactCompareBySaid : Prop := fnExactCompareByRow.holds Try.pinned (OpenSpec.ofChange fnExactCompareBySpec)

/-- ITS FALSE NEIGHBOUR: 'it returns false'. Refute it at one input. -/
def fnExactCompareByWrong : ChangeSpec := { name := "fnExactCompareBy", fn := fun _ => fun
  | [d1, d2, d3] => { results := [.lit (.bool false)], args := [d1, d2, d3] }
  | _ => none }
def FnExactCompareByWrongFalsely : Prop := fnExactCompareByRow.holds Try.pinned (OpenSpec.ofChange fnExactCompareByWrong)

/-- 'laws.FnExactPairsOut': WHATEVER THE INPUT: true; the input reads as it did. -/
def fnExactPairsOutSpec : ChangeSpec := { name := "fnExactPairsOut", fn := fun _ => fun
  | [d] => { results := [.lit (.bool true)], args := [d] }
  | _ => none }
def fnExactPairsOutRow : OpenClaim := { program := "ytgdhopcbiekhhaa", sum := "0f4455d42bc74b2f847323b6d04ebc79ca5250e08e6c4f8dc67eb26d5da1ba17", func := "loop.example/g01326/laws.FnExactPairsOut", spec := "fnExactPairsOut", unfollowed := true, recurses := true, apart := false }
def FnExactPairsOutSaid : Prop := fnExactPairsOutRow.holds Try.pinned (OpenSpec.ofChange fnExactPairsOutSpec)

/-- ITS FALSE NEIGHBOUR: 'it returns false'. Refute it at one input. -/
def fnExactPairsOutWrong : ChangeSpec := { name := "fnExactPairsOut", fn := fun _ => fun
  | [d] => { results := [.lit (.bool false)], args := [d] }
  | _ => none }
def FnExactPairsOutWrongFalsely : Prop := fnExactPairsOutRow.holds Try.pinned (OpenSpec.ofChange fnExactPairsOutWrong)

/-- 'laws.FnExactIsSorted': WHATEVER THE INPUT: true; the input reads as it did. -/
def fnExactIsSortedSpec : ChangeSpec := { name := "fnExactIsSorted", fn := fun _ => fun
  | [d] => { results := [.lit (.bool true)], args := [d] }
  | _ => none }
def fnExactIsSortedRow : OpenClaim := { program := "ytgdhopcbiekhhaa", sum := "0f4455d42bc74b2f847323b6d04ebc79ca5250e08e6c4f8dc67eb26d5da1ba17", func := "loop.example/g01326/laws.FnExactIsSorted", spec := "fnExactIsSorted", unfollowed := true, recurses := true, apart := false }
def FnExactIsSortedSaid : Prop := fnExactIsSortedRow.holds Try.pinned (OpenSpec.ofChange fnExactIsSortedSpec)

/-- ITS FALSE NEIGHBOUR: 'it returns false'. Refute it at one input. -/
def fnExactIsSortedWrong : ChangeSpec := { name := "fnExactIsSorted", fn := fun _ => fun
  | [d] => { results := [.lit (.bool false)], args := [d] }
  | _ => none }
def FnExactIsSortedWrongFalsely : Prop := fnExactIsSortedRow.holds Try.pinned (OpenSpec.ofChange fnExactIsSortedWrong)

/-- 'laws.FnExactSwapAll': WHATEVER THE INPUT: true; the input reads as it did. -/
def fnExactSwapAllSpec : ChangeSpec := { name := "fnExactSwapAll", fn := fun _ => fun
  | [d1, d2] => { results := [.lit (.bool true)], args := [d1, d2] }
  | _ => none }
def fnExactSwapAllRow : OpenClaim := { program := "ytgdhopcbiekhhaa", sum := "0f4455d42bc74b2f847323b6d04ebc79ca5250e08e6c4f8dc67eb26d5da1ba17", func := "loop.example/g01326/laws.FnExactSwapAll", spec := "fnExactSwapAll", unfollowed := true, recurses := true, apart := false }
def FnExactSwapAllSaid : Prop := fnExactSwapAllRow.holds Try.pinned (OpenSpec.ofChange fnExactSwapAllSpec)

/-- ITS FALSE NEIGHBOUR: 'it returns false'. Refute it at one input. -/
def fnExactSwapAllWrong : ChangeSpec := { name := "fnExactSwapAll", fn := fun _ => fun
  | [d1, d2] => { results := [.lit (.bool false)], args := [d1, d2] }
  | _ => none }
def FnExactSwapAllWrongFalsely : Prop := fnExactSwapAllRow.holds Try.pinned (OpenSpec.ofChange fnExactSwapAllWrong)

/-- 'laws.FnExactFirstOut': WHATEVER THE INPUT: true; the input reads as it did. -/
def fnExactFirstOutSpec : ChangeSpec := { name := "fnExactFirstOut", fn := fun _ => fun
  | [d] => { results := [.lit (.bool true)], args := [d] }
  | _ => none }
def fnExactFirstOutRow : OpenClaim := { program := "ytgdhopcbiekhhaa", sum := "0f4455d42bc74b2f847323b6d04ebc79ca5250e08e6c4f8dc67eb26d5da1ba17", func := "loop.example/g01326/laws.FnExactFirstOut", spec := "fnExactFirstOut", unfollowed := true, recurses := true, apart := false }
def FnExactFirstOutSaid : Prop := fnExactFirstOutRow.holds Try.pinned (OpenSpec.ofChange fnExactFirstOutSpec)

/-- ITS FALSE NEIGHBOUR: 'it returns false'. Refute it at one input. -/
def fnExactFirstOutWrong : ChangeSpec := { name := "fnExactFirstOut", fn := fun _ => fun
  | [d] => { results := [.lit (.bool false)], args := [d] }
  | _ => none }
def FnExactFirstOutWrongFalsely : Prop := fnExactFirstOutRow.holds Try.pinned (OpenSpec.ofChange fnExactFirstOutWrong)

/-- 'laws.FnExactLongestRun': WHATEVER THE INPUT: true; the input reads as it did. -/
def fnExactLongestRunSpec : ChangeSpec := { name := "fnExactLongestRun", fn := fun _ => fun
  | [d] => { results := [.lit (.bool true)], args := [d] }
  | _ => none }
def fnExactLongestRunRow : OpenClaim := { program := "ytgdhopcbiekhhaa", sum := "0f4455d42bc74b2f847323b6d04ebc79ca5250e08e6c4f8dc67eb26d5da1ba17", func := "loop.example/g01326/laws.FnExactLongestRun", spec := "fnExactLongestRun", unfollowed := true, recurses := true, apart := false }
def FnExactLongestRunSaid : Prop := fnExactLongestRunRow.holds Try.pinned (OpenSpec.ofChange fnExactLongestRunSpec)

/-- ITS FALSE NEIGHBOUR: 'it returns false'. Refute it at one input. -/
def fnExactLongestRunWrong : ChangeSpec := { name := "fnExactLongestRun", fn := fun _ => fun
  | [d] => { results := [.lit (.bool false)], args := [d] }
  | _ => none }
def FnExactLongestRunWrongFalsely : Prop := fnExactLongestRunRow.holds Try.pinned (OpenSpec.ofChange fnExactLongestRunWrong)

/-- 'laws.FnExactFindBook': WHATEVER THE INPUT: true; the input reads as it did. -/
def fnExactFindBookSpec : ChangeSpec := { name := "fnExactFindBook", fn := fun _ => fun
  | [d1, d2, d3, d4] => { results := [.lit (.bool true)], args := [d1, d2, d3, d4] }
  | _ => none }
def fnExactFindBookRow : OpenClaim := { program := "ytgdhopcbiekhhaa", sum := "0f4455d42bc74b2f847323b6d04ebc79ca5250e08e6c4f8dc67eb26d5da1ba17", func := "loop.example/g01326/laws.FnExactFindBook", spec := "fnExactFindBook", unfollowed := true, recurses := true, apart := false }
def FnExactFindBookSaid : Prop := fnExactFindBookRow.holds Try.pinned (OpenSpec.ofChange fnExactFindBookSpec)

/-- ITS FALSE NEIGHBOUR: 'it returns false'. Refute it at one input. -/
def fnExactFindBookWrong : ChangeSpec := { name := "fnExactFindBook", fn := fun _ => fun
  | [d1, d2, d3, d4] => { results := [.lit (.bool false)], args := [d1, d2, d3, d4] }
  | _ => none }
def FnExactFindBookWrongFalsely : Prop := fnExactFindBookRow.holds Try.pinned (OpenSpec.ofChange fnExactFindBookWrong)

/-- 'laws.FnExactPlaceFor': WHATEVER THE INPUT: true; the input reads as it did. -/
def fnExactPlaceForSpec : ChangeSpec := { name := "fnExactPlaceFor", fn := fun _ => fun
  | [d1, d2] => { results := [.lit (.bool true)], args := [d1, d2] }
  | _ => none }
def fnExactPlaceForRow : OpenClaim := { program := "ytgdhopcbiekhhaa", sum := "0f4455d42bc74b2f847323b6d04ebc79ca5250e08e6c4f8dc67eb26d5da1ba17", func := "loop.example/g01326/laws.FnExactPlaceFor", spec := "fnExactPlaceFor", unfollowed := true, recurses := true, apart := false }
def FnExactPlaceForSaid : Prop := fnExactPlaceForRow.holds Try.pinned (OpenSpec.ofChange fnExactPlaceForSpec)

/-- ITS FALSE NEIGHBOUR: 'it returns false'. Refute it at one input. -/
def fnExactPlaceForWrong : ChangeSpec := { name := "fnExactPlaceFor", fn := fun _ => fun
  | [d1, d2] => { results := [.lit (.bool false)], args := [d1, d2] }
  | _ => none }
def FnExactPlaceForWrongFalsely : Prop := fnExactPlaceForRow.holds Try.pinned (OpenSpec.ofChange fnExactPlaceForWrong)

/-- 'laws.FnExactLabelBound': WHATEVER THE INPUT: true; the input reads as it did. -/
def fnExactLabelBoundSpec : ChangeSpec := { name := "fnExactLabelBound", fn := fun _ => fun
  | [d1, d2] => { results := [.lit (.bool true)], args := [d1, d2] }
  | _ => none }
def fnExactLabelBoundRow : OpenClaim := { program := "ytgdhopcbiekhhaa", sum := "0f4455d42bc74b2f847323b6d04ebc79ca5250e08e6c4f8dc67eb26d5da1ba17", func := "loop.example/g01326/laws.FnExactLabelBound", spec := "fnExactLabelBound", unfollowed := true, recurses := true, apart := false }
def FnExactLabelBoundSaid : Prop := fnExactLabelBoundRow.holds Try.pinned (OpenSpec.ofChange fnExactLabelBoundSpec)

/-- ITS FALSE NEIGHBOUR: 'it returns false'. Refute it at one input. -/
def fnExactLabelBoundWrong : ChangeSpec := { name := "fnExactLabelBound", fn := fun _ => fun
  | [d1, d2] => { results := [.lit (.bool false)], args := [d1, d2] }
  | _ => none }
def FnExactLabelBoundWrongFalsely : Prop := fnExactLabelBoundRow.holds Try.pinned (OpenSpec.ofChange fnExactLabelBoundWrong)

/-- 'laws.FnExactClassRange': WHATEVER THE INPUT: true; the input reads as it did. -/
def fnExactClassRangeSpec : ChangeSpec := { name := "fnExactClassRange", fn := fun _ => fun
  | [d1, d2, d3] => { results := [.lit (.bool true)], args := [d1, d2, d3] }
  | _ => none }
def fnExactClassRangeRow : OpenClaim := { program := "ytgdhopcbiekhhaa", sum := "0f4455d42bc74b2f847323b6d04ebc79ca5250e08e6c4f8dc67eb26d5da1ba17", func := "loop.example/g01326/laws.FnExactClassRange", spec := "fnExactClassRange", unfollowed := true, recurses := true, apart := false }
def FnExactClassRangeSaid : Prop := fnExactClassRangeRow.holds Try.pinned (OpenSpec.ofChange fnExactClassRangeSpec)

/-- ITS FALSE NEIGHBOUR: 'it returns false'. Refute it at one input. -/
def fnExactClassRangeWrong : ChangeSpec := { name := "fnExactClassRange", fn := fun _ => fun
  | [d1, d2, d3] => { results := [.lit (.bool false)], args := [d1, d2, d3] }
  | _ => none }
def FnExactClassRangeWrongFalsely : Prop := fnExactClassRangeRow.holds Try.pinned (OpenSpec.ofChange fnExactClassRangeWrong)

/-- 'laws.FnExactRunsOf': WHATEVER THE INPUT: true; the input reads as it did. -/
def fnExactRunsOfSpec : ChangeSpec := { name := "fnExactRunsOf", fn := fun _ => fun
  | [d] => { results := [.lit (.bool true)], args := [d] }
  | _ => none }
def fnExactRunsOfRow : OpenClaim := { program := "ytgdhopcbiekhhaa", sum := "0f4455d42bc74b2f847323b6d04ebc79ca5250e08e6c4f8dc67eb26d5da1ba17", func := "loop.example/g01326/laws.FnExactRunsOf", spec := "fnExactRunsOf", unfollowed := true, recurses := true, apart := false }
def FnExactRunsOfSaid : Prop := fnExactRunsOfRow.holds Try.pinned (OpenSpec.ofChange fnExactRunsOfSpec)

/-- ITS FALSE NEIGHBOUR: 'it returns false'. Refute it at one input. -/
def fnExactRunsOfWrong : ChangeSpec := { name := "fnExactRunsOf", fn := fun _ => fun
  | [d] => { results := [.lit (.bool false)], args := [d] }
  | _ => none }
def FnExactRunsOfWrongFalsely : Prop := fnExactRunsOfRow.holds Try.pinned (OpenSpec.ofChange fnExactRunsOfWrong)

/-- 'laws.FnExactSortBooks': WHATEVER THE INPUT: true; the input reads as it did. -/
def fnExactSortBooksSpec : ChangeSpec := { name := "fnExactSortBooks", fn := fun _ => fun
  | [d1, d2] => { results := [.lit (.bool true)], args := [d1, d2] }
  | _ => none }
def fnExactSortBooksRow : OpenClaim := { program := "ytgdhopcbiekhhaa", sum := "0f4455d42bc74b2f847323b6d04ebc79ca5250e08e6c4f8dc67eb26d5da1ba17", func := "loop.example/g01326/laws.FnExactSortBooks", spec := "fnExactSortBooks", unfollowed := true, recurses := true, apart := false }
def FnExactSortBooksSaid : Prop := fnExactSortBooksRow.holds Try.pinned (OpenSpec.ofChange fnExactSortBooksSpec)

/-- ITS FALSE NEIGHBOUR: 'it returns false'. Refute it at one input. -/
def fnExactSortBooksWrong : ChangeSpec := { name := "fnExactSortBooks", fn := fun _ => fun
  | [d1, d2] => { results := [.lit (.bool false)], args := [d1, d2] }
  | _ => none }
def FnExactSortBooksWrongFalsely : Prop := fnExactSortBooksRow.holds Try.pinned (OpenSpec.ofChange fnExactSortBooksWrong)

/-- 'laws.FnExactMergeBooks': WHATEVER THE INPUT: true; the input reads as it did. -/
def fnExactMergeBooksSpec : ChangeSpec := { name := "fnExactMergeBooks", fn := fun _ => fun
  | [d1, d2] => { results := [.lit (.bool true)], args := [d1, d2] }
  | _ => none }
def fnExactMergeBooksRow : OpenClaim := { program := "ytgdhopcbiekhhaa", sum := "0f4455d42bc74b2f847323b6d04ebc79ca5250e08e6c4f8dc67eb26d5da1ba17", func := "loop.example/g01326/laws.FnExactMergeBooks", spec := "fnExactMergeBooks", unfollowed := true, recurses := true, apart := false }
def FnExactMergeBooksSaid : Prop := fnExactMergeBooksRow.holds Try.pinned (OpenSpec.ofChange fnExactMergeBooksSpec)

/-- ITS FALSE NEIGHBOUR: 'it returns false'. Refute it at one input. -/
def fnExactMergeBooksWrong : ChangeSpec := { name := "fnExactMergeBooks", fn := fun _ => fun
  | [d1, d2] => { results := [.lit (.bool false)], args := [d1, d2] }
  | _ => none }
def FnExactMergeBooksWrongFalsely : Prop := fnExactMergeBooksRow.holds Try.pinned (OpenSpec.ofChange fnExactMergeBooksWrong)

/- THE SECOND FORM. 'bulk': how many values and letters a reading holds, each counted each time it is reached (what is shared counts as often as it is met; a slice's spare places count too). A statement '..UptoSaid' is the law's where the arguments, and the package variables that the reading takes, are together of bulk at most 1048576: NARROWER than '..Said'. Prove '..Said' where nothing that the law and all that it calls make is longer than what came in: it says more and counts as full. Else prove '..UptoSaid'. A law counts once. -/
mutual
def uptoBulk {H : Type} : DataW H → Nat
  | .lit (.string bytes) => bytes.length + 1
  | .lit _ => 1
  | .nil => 1
  | .ptr d => uptoBulk d + 1
  | .slice elems spare => uptoBulkAll elems + uptoBulkAll spare + 1
  | .agg parts => uptoBulkAll parts + 1
  | .iface _ d => uptoBulk d + 1
  | .map entries => uptoBulkEntries entries + 1
  | .held _ => 1
def uptoBulkAll {H : Type} : List (DataW H) → Nat
  | [] => 0
  | d :: r => uptoBulk d + uptoBulkAll r
def uptoBulkEntries {H : Type} : List (Lit × DataW H) → Nat
  | [] => 0
  | x :: r => uptoBulkEntry x + uptoBulkEntries r
def uptoBulkEntry {H : Type} : Lit × DataW H → Nat
  | (.string bytes, d) => bytes.length + uptoBulk d + 1
  | (_, d) => uptoBulk d + 1
 end
def uptoSmall : (H : Type) → List (DataW H) → Bool := fun _ ds => decide (uptoBulkAll ds ≤ 1048576)
def OpenSpec.upto (s : _root_.Go.ChangeSpec) : _root_.Go.OpenSpec := { _root_.Go.OpenSpec.ofChange s with cond := some uptoSmall }

/-- 'laws.FnExactConstants', WHERE WHAT IT READS IS OF BULK AT MOST 1048576: true; the input reads as it did. -/
def fnExactConstantsUptoRow : OpenClaim := { program := "ytgdhopcbiekhhaa", sum := "0f4455d42bc74b2f847323b6d04ebc79ca5250e08e6c4f8dc67eb26d5da1ba17", func := "loop.example/g01326/laws.FnExactConstants", spec := "fnExactConstants", apart := false, narrowed := true }
def FnExactConstantsUptoSaid : Prop := fnExactConstantsUptoRow.holds Try.pinned (OpenSpec.upto fnExactConstantsSpec)

/-- 'laws.FnExactCodeName', WHERE WHAT IT READS IS OF BULK AT MOST 1048576: true; the input reads as it did. -/
def fnExactCodeNameUptoRow : OpenClaim := { program := "ytgdhopcbiekhhaa", sum := "0f4455d42bc74b2f847323b6d04ebc79ca5250e08e6c4f8dc67eb26d5da1ba17", func := "loop.example/g01326/laws.FnExactCodeName", spec := "fnExactCodeName", apart := false, narrowed := true }
def FnExactCodeNameUptoSaid : Prop := fnExactCodeNameUptoRow.holds Try.pinned (OpenSpec.upto fnExactCodeNameSpec)

/-- 'laws.FnExactValidOrder', WHERE WHAT IT READS IS OF BULK AT MOST 1048576: true; the input reads as it did. -/
def fnExactValidOrderUptoRow : OpenClaim := { program := "ytgdhopcbiekhhaa", sum := "0f4455d42bc74b2f847323b6d04ebc79ca5250e08e6c4f8dc67eb26d5da1ba17", func := "loop.example/g01326/laws.FnExactValidOrder", spec := "fnExactValidOrder", apart := false, narrowed := true }
def FnExactValidOrderUptoSaid : Prop := fnExactValidOrderUptoRow.holds Try.pinned (OpenSpec.upto fnExactValidOrderSpec)

/-- 'laws.FnExactValidBook', WHERE WHAT IT READS IS OF BULK AT MOST 1048576: true; the input reads as it did. -/
def fnExactValidBookUptoRow : OpenClaim := { program := "ytgdhopcbiekhhaa", sum := "0f4455d42bc74b2f847323b6d04ebc79ca5250e08e6c4f8dc67eb26d5da1ba17", func := "loop.example/g01326/laws.FnExactValidBook", spec := "fnExactValidBook", unfollowed := true, recurses := true, apart := false, narrowed := true }
def FnExactValidBookUptoSaid : Prop := fnExactValidBookUptoRow.holds Try.pinned (OpenSpec.upto fnExactValidBookSpec)

/-- 'laws.FnExactSameBooks', WHERE WHAT IT READS IS OF BULK AT MOST 1048576: true; the input reads as it did. -/
def fnExactSameBooksUptoRow : OpenClaim := { program := "ytgdhopcbiekhhaa", sum := "0f4455d42bc74b2f847323b6d04ebc79ca5250e08e6c4f8dc67eb26d5da1ba17", func := "loop.example/g01326/laws.FnExactSameBooks", spec := "fnExactSameBooks", apart := false, narrowed := true }
def FnExactSameBooksUptoSaid : Prop := fnExactSameBooksUptoRow.holds Try.pinned (OpenSpec.upto fnExactSameBooksSpec)

/-- 'laws.FnExactValidBooks', WHERE WHAT IT READS IS OF BULK AT MOST 1048576: true; the input reads as it did. -/
def fnExactValidBooksUptoRow : OpenClaim := { program := "ytgdhopcbiekhhaa", sum := "0f4455d42bc74b2f847323b6d04ebc79ca5250e08e6c4f8dc67eb26d5da1ba17", func := "loop.example/g01326/laws.FnExactValidBooks", spec := "fnExactValidBooks", unfollowed := true, recurses := true, apart := false, narrowed := true }
def FnExactValidBooksUptoSaid : Prop := fnExactValidBooksUptoRow.holds Try.pinned (OpenSpec.upto fnExactValidBooksSpec)

/-- 'laws.FnExactCompareBooks', WHERE WHAT IT READS IS OF BULK AT MOST 1048576: true; the input reads as it did. -/
def fnExactCompareBooksUptoRow : OpenClaim := { program := "ytgdhopcbiekhhaa", sum := "0f4455d42bc74b2f847323b6d04ebc79ca5250e08e6c4f8dc67eb26d5da1ba17", func := "loop.example/g01326/laws.FnExactCompareBooks", spec := "fnExactCompareBooks", apart := false, narrowed := true }
def FnExactCompareBooksUptoSaid : Prop := fnExactCompareBooksUptoRow.holds Try.pinned (OpenSpec.upto fnExactCompareBooksSpec)

/-- 'laws.FnExactCountByHundreds', WHERE WHAT IT READS IS OF BULK AT MOST 1048576: true; the input reads as it did. -/
def fnExactCountByHundredsUptoRow : OpenClaim := { program := "ytgdhopcbiekhhaa", sum := "0f4455d42bc74b2f847323b6d04ebc79ca5250e08e6c4f8dc67eb26d5da1ba17", func := "loop.example/g01326/laws.FnExactCountByHundreds", spec := "fnExactCountByHundreds", unfollowed := true, recurses := true, apart := false, narrowed := true }
def FnExactCountByHundredsUptoSaid : Prop := fnExactCountByHundredsUptoRow.holds Try.pinned (OpenSpec.upto fnExactCountByHundredsSpec)

/-- 'laws.FnExactTotalsOf', WHERE WHAT IT READS IS OF BULK AT MOST 1048576: true; the input reads as it did. -/
def fnExactTotalsOfUptoRow : OpenClaim := { program := "ytgdhopcbiekhhaa", sum := "0f4455d42bc74b2f847323b6d04ebc79ca5250e08e6c4f8dc67eb26d5da1ba17", func := "loop.example/g01326/laws.FnExactTotalsOf", spec := "fnExactTotalsOf", unfollowed := true, recurses := true, apart := false, narrowed := true }
def FnExactTotalsOfUptoSaid : Prop := fnExactTotalsOfUptoRow.holds Try.pinned (OpenSpec.upto fnExactTotalsOfSpec)

/-- 'laws.FnExactCompareBy', WHERE WHAT IT READS IS OF BULK AT MOST 1048576: true; the input reads as it did. -/
def fnExactCompareByUptoRow : OpenClaim := { program := "ytgdhopcbiekhhaa", sum := "0f4455d42bc74b2f847323b6d04ebc79ca5250e08e6c4f8dc67eb26d5da1ba17", func := "loop.example/g01326/laws.FnExactCompareBy", spec := "fnExactCompareBy", unfollowed := true, recurses := true, apart := false, narrowed := true }
def FnExactCompareByUptoSaid : Prop := fnExactCompareByUptoRow.holds Try.pinned (OpenSpec.upto fnExactCompareBySpec)

/-- 'laws.FnExactPairsOut', WHERE WHAT IT READS IS OF BULK AT MOST 1048576: true; the input reads as it did. -/
def fnExactPairsOutUptoRow : OpenClaim := { program := "ytgdhopcbiekhhaa", sum := "0f4455d42bc74b2f847323b6d04ebc79ca5250e08e6c4f8dc67eb26d5da1ba17", func := "loop.example/g01326/laws.FnExactPairsOut", spec := "fnExactPairsOut", unfollowed := true, recurses := true, apart := false, narrowed := true }
def FnExactPairsOutUptoSaid : Prop := fnExactPairsOutUptoRow.holds Try.pinned (OpenSpec.upto fnExactPairsOutSpec)

/-- 'laws.FnExactIsSorted', WHERE WHAT IT READS IS OF BULK AT MOST 1048576: true; the input reads as it did. -/
def fnExactIsSortedUptoRow : OpenClaim := { program := "ytgdhopcbiekhhaa", sum := "0f4455d42bc74b2f847323b6d04ebc79ca5250e08e6c4f8dc67eb26d5da1ba17", func := "loop.example/g01326/laws.FnExactIsSorted", spec := "fnExactIsSorted", unfollowed := true, recurses := true, apart := false, narrowed := true }
def FnExactIsSortedUptoSaid : Prop := fnExactIsSortedUptoRow.holds Try.pinned (OpenSpec.upto fnExactIsSortedSpec)

/-- 'laws.FnExactSwapAll', WHERE WHAT IT READS IS OF BULK AT MOST 1048576: true; the input reads as it did. -/
def fnExactSwapAllUptoRow : OpenClaim := { program := "ytgdhopcbiekhhaa", sum := "0f4455d42bc74b2f847323b6d04ebc79ca5250e08e6c4f8dc67eb26d5da1ba17", func := "loop.example/g01326/laws.FnExactSwapAll", spec := "fnExactSwapAll", unfollowed := true, recurses := true, apart := false, narrowed := true }
def FnExactSwapAllUptoSaid : Prop := fnExactSwapAllUptoRow.holds Try.pinned (OpenSpec.upto fnExactSwapAllSpec)

/-- 'laws.FnExactFirstOut', WHERE WHAT IT READS IS OF BULK AT MOST 1048576: true; the input reads as it did. -/
def fnExactFirstOutUptoRow : OpenClaim := { program := "ytgdhopcbiekhhaa", sum := "0f4455d42bc74b2f847323b6d04ebc79ca5250e08e6c4f8dc67eb26d5da1ba17", func := "loop.example/g01326/laws.FnExactFirstOut", spec := "fnExactFirstOut", unfollowed := true, recurses := true, apart := false, narrowed := true }
def FnExactFirstOutUptoSaid : Prop := fnExactFirstOutUptoRow.holds Try.pinned (OpenSpec.upto fnExactFirstOutSpec)

/-- 'laws.FnExactLongestRun', WHERE WHAT IT READS IS OF BULK AT MOST 1048576: true; the input reads as it did. -/
def fnExactLongestRunUptoRow : OpenClaim := { program := "ytgdhopcbiekhhaa", sum := "0f4455d42bc74b2f847323b6d04ebc79ca5250e08e6c4f8dc67eb26d5da1ba17", func := "loop.example/g01326/laws.FnExactLongestRun", spec := "fnExactLongestRun", unfollowed := true, recurses := true, apart := false, narrowed := true }
def FnExactLongestRunUptoSaid : Prop := fnExactLongestRunUptoRow.holds Try.pinned (OpenSpec.upto fnExactLongestRunSpec)

/-- 'laws.FnExactFindBook', WHERE WHAT IT READS IS OF BULK AT MOST 1048576: true; the input reads as it did. -/
def fnExactFindBookUptoRow : OpenClaim := { program := "ytgdhopcbiekhhaa", sum := "0f4455d42bc74b2f847323b6d04ebc79ca5250e08e6c4f8dc67eb26d5da1ba17", func := "loop.example/g01326/laws.FnExactFindBook", spec := "fnExactFindBook", unfollowed := true, recurses := true, apart := false, narrowed := true }
def FnExactFindBookUptoSaid : Prop := fnExactFindBookUptoRow.holds Try.pinned (OpenSpec.upto fnExactFindBookSpec)

/-- 'laws.FnExactPlaceFor', WHERE WHAT IT READS IS OF BULK AT MOST 1048576: true; the input reads as it did. -/
def fnExactPlaceForUptoRow : OpenClaim := { program := "ytgdhopcbiekhhaa", sum := "0f4455d42bc74b2f847323b6d04ebc79ca5250e08e6c4f8dc67eb26d5da1ba17", func := "loop.example/g01326/laws.FnExactPlaceFor", spec := "fnExactPlaceFor", unfollowed := true, recurses := true, apart := false, narrowed := true }
def FnExactPlaceForUptoSaid : Prop := fnExactPlaceForUptoRow.holds Try.pinned (OpenSpec.upto fnExactPlaceForSpec)

/-- 'laws.FnExactLabelBound', WHERE WHAT IT READS IS OF BULK AT MOST 1048576: true; the input reads as it did. -/
def fnExactLabelBoundUptoRow : OpenClaim := { program := "ytgdhopcbiekhhaa", sum := "0f4455d42bc74b2f847323b6d04ebc79ca5250e08e6c4f8dc67eb26d5da1ba17", func := "loop.example/g01326/laws.FnExactLabelBound", spec := "fnExactLabelBound", unfollowed := true, recurses := true, apart := false, narrowed := true }
def FnExactLabelBoundUptoSaid : Prop := fnExactLabelBoundUptoRow.holds Try.pinned (OpenSpec.upto fnExactLabelBoundSpec)

/-- 'laws.FnExactClassRange', WHERE WHAT IT READS IS OF BULK AT MOST 1048576: true; the input reads as it did. -/
def fnExactClassRangeUptoRow : OpenClaim := { program := "ytgdhopcbiekhhaa", sum := "0f4455d42bc74b2f847323b6d04ebc79ca5250e08e6c4f8dc67eb26d5da1ba17", func := "loop.example/g01326/laws.FnExactClassRange", spec := "fnExactClassRange", unfollowed := true, recurses := true, apart := false, narrowed := true }
def FnExactClassRangeUptoSaid : Prop := fnExactClassRangeUptoRow.holds Try.pinned (OpenSpec.upto fnExactClassRangeSpec)

/-- 'laws.FnExactRunsOf', WHERE WHAT IT READS IS OF BULK AT MOST 1048576: true; the input reads as it did. -/
def fnExactRunsOfUptoRow : OpenClaim := { program := "ytgdhopcbiekhhaa", sum := "0f4455d42bc74b2f847323b6d04ebc79ca5250e08e6c4f8dc67eb26d5da1ba17", func := "loop.example/g01326/laws.FnExactRunsOf", spec := "fnExactRunsOf", unfollowed := true, recurses := true, apart := false, narrowed := true }
def FnExactRunsOfUptoSaid : Prop := fnExactRunsOfUptoRow.holds Try.pinned (OpenSpec.upto fnExactRunsOfSpec)

/-- 'laws.FnExactSortBooks', WHERE WHAT IT READS IS OF BULK AT MOST 1048576: true; the input reads as it did. -/
def fnExactSortBooksUptoRow : OpenClaim := { program := "ytgdhopcbiekhhaa", sum := "0f4455d42bc74b2f847323b6d04ebc79ca5250e08e6c4f8dc67eb26d5da1ba17", func := "loop.example/g01326/laws.FnExactSortBooks", spec := "fnExactSortBooks", unfollowed := true, recurses := true, apart := false, narrowed := true }
def FnExactSortBooksUptoSaid : Prop := fnExactSortBooksUptoRow.holds Try.pinned (OpenSpec.upto fnExactSortBooksSpec)

/-- 'laws.FnExactMergeBooks', WHERE WHAT IT READS IS OF BULK AT MOST 1048576: true; the input reads as it did. -/
def fnExactMergeBooksUptoRow : OpenClaim := { program := "ytgdhopcbiekhhaa", sum := "0f4455d42bc74b2f847323b6d04ebc79ca5250e08e6c4f8dc67eb26d5da1ba17", func := "loop.example/g01326/laws.FnExactMergeBooks", spec := "fnExactMergeBooks", unfollowed := true, recurses := true, apart := false, narrowed := true }
def FnExactMergeBooksUptoSaid : Prop := fnExactMergeBooksUptoRow.holds Try.pinned (OpenSpec.upto fnExactMergeBooksSpec)

end Rows
end Go.Proofs.Ytgdhopcbiekhhaa
