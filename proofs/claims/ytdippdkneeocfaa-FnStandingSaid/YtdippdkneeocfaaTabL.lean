/- Tables among a law's arguments: their size. -/
import Derived.Test.YtdippdkneeocfaaTab
import Derived.StillTailTactics
import Derived.Still
import Derived.Deep.QuietTactic
import Derived.BigQuiet
namespace Go.Proofs.Ytdippdkneeocfaa
open Go.RowKit Go.Proofs.YtdippdkneeocfaaW.PrintWords Go.Proofs.YtdippdkneeocfaaW.PrintMore
set_option linter.unusedVariables false
set_option linter.unusedSimpArgs false
set_option maxRecDepth 100000

def OkT (T : List (List Int)) : Prop := ∀ r, r ∈ T → OkI64 r
theorem szT_lt (A : Option Addr) (c : Nat) (T : List (List Int)) (left : Int) (w : World) (h0 : 0 ≤ left) (h1 : left ≤ 1048576) (hT : kT.C w A T.length T) (h : left < (tSize T : Int)) :
    Calls Try.prog 74 #[.slice A T.length c, .int .i64 left] w (RetS w (.int .i64 (-1))) := by
  have := szT_c A c T left w h0 h1 hT
  rwa [if_pos h] at this
theorem szT_ge (A : Option Addr) (c : Nat) (T : List (List Int)) (left : Int) (w : World) (h0 : 0 ≤ left) (h1 : left ≤ 1048576) (hT : kT.C w A T.length T) (h : ¬ left < (tSize T : Int)) :
    Calls Try.prog 74 #[.slice A T.length c, .int .i64 left] w (RetS w (.int .i64 (left - (tSize T : Int)))) := by
  have := szT_c A c T left w h0 h1 hT
  rwa [if_neg h] at this
theorem tSize_len (T : List (List Int)) : T.length ≤ tSize T := Nat.le_add_right _ _
theorem tSize_row (T : List (List Int)) (r : List Int) (h : r ∈ T) : r.length ≤ tSize T := by
  obtain ⟨i, hi⟩ := List.mem_iff_getElem?.1 h
  have h1 : i < T.length := (List.getElem?_eq_some_iff.1 hi).1
  have h2 := rowsN_succ hi
  have h3 := rowsN_mono T (i + 1) (T.length - (i + 1))
  rw [show i + 1 + (T.length - (i + 1)) = T.length by omega] at h3
  unfold tSize
  omega
end Go.Proofs.Ytdippdkneeocfaa
