/- The start that the program's own initialisers leave: the listed variables lie as the rows say. -/
import Derived.Test.YtgibcacciedobaaDoorTxE
import Derived.Test.YtgibcacciedobaaDoorRows
import Derived.LaidLaws
import Derived.LaidMore
import Derived.MakeChecks
import Derived.Stop.LaidErr
import Derived.Stop.Joined
import Derived.Lib.LaidTab
import Derived.ProofKit
namespace Go.Proofs.YtgibcacciedobaaDoor
open Go.RowKit Go.Proofs.YtgibcacciedobaaDoorW.PrintWords Go.Proofs.YtgibcacciedobaaDoorW.PrintMore
set_option linter.unusedVariables false
set_option linter.unusedSimpArgs false
set_option maxRecDepth 100000

noncomputable def startWorld (os : Os) : World := World.doorLaid Tryd.prog 72 os
theorem powD : Rows.laid_internal_strconv_uint64pow10 (H := Unit) = Lib.tabData .u64 Lib.pow10Tab := by kernel_rfl
theorem tPow : (Tryd.prog.globals[1]?).map (·.type) = some 162 := by kernel_rfl
theorem cPow : Tryd.prog.cellsOf 162 = 20 := by kernel_rfl
theorem cU64 : Tryd.prog.cellsOf 145 = 1 := by kernel_rfl
abbrev laid3 : List (String × DataW Unit) := [("math/bits.deBruijn32tab", Rows.laid_math_bits_deBruijn32tab), ("math/bits.deBruijn64tab", Rows.laid_math_bits_deBruijn64tab), ("internal/strconv.uint64pow10", Rows.laid_internal_strconv_uint64pow10)]
set_option maxRecDepth 100000 in
theorem start_met (os : Os) (args : Array Value) : laidMetH Tryd.prog laid3 ((startWorld os).forCall (fun _ _ => 0) ⟨#[], args, []⟩).memory := by
  rw [MakeChecks.laidMetH_plain _ _ _ (by kernel_rfl)]
  exact laidMet_of_run' 8 (by kernel_rfl) (by kernel_rfl)
theorem start_tab {W : World} (h : laidMetH Tryd.prog laid3 W) : Tab W := by
  rw [MakeChecks.laidMetH_plain _ _ _ (by kernel_rfl)] at h
  have h2 := h.tail.tail
  rw [powD] at h2
  exact Lib.tabIs_of_head gPow tPow Tryd.underlying162 Tryd.underlying145 cU64 cPow h2
end Go.Proofs.YtgibcacciedobaaDoor
