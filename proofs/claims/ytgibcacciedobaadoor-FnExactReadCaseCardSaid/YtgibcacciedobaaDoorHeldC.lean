/- A marked case's heights, told over. -/
import Derived.Test.YtgibcacciedobaaDoorCase
import Derived.StillTailTactics
import Derived.Still
import Derived.Deep.QuietTactic
import Derived.BigQuiet
namespace Go.Proofs.YtgibcacciedobaaDoor
open Go.RowKit Go.Proofs.YtgibcacciedobaaDoorW.PrintWords Go.Proofs.YtgibcacciedobaaDoorW.PrintMore
set_option linter.unusedVariables false
set_option linter.unusedSimpArgs false
set_option maxRecDepth 100000

set_option maxHeartbeats 1000000 in
theorem heldInt16S_c (A : Option Addr) (c n : Nat) (m : Int) (w : World) (hL : (Kd.int .i16).C w A n ((upI m n).map (fun x => (IntKind.i16.wrap (x))))) (h0 : 0 ≤ m) (h1 : m ≤ 1000000000) (hn : n ≤ 2097152) :
    Calls Tryd.prog 77 #[.slice A n c, .int .i64 m] w (RetS w (.int .i64 (m + n))) := by
  have HL := Aside0.mk hL
  clear hL
  go_enter Tryd.func77, Tryd.ntmps77
  go_wp2
  go_loopg [1, 5] n (fun gk u v wr => ∃ k : Nat, k + gk = n ∧ u = .int .i64 (m + k) ∧ v = .int .i64 k ∧ w = wr)
  case atStart => exact ⟨0, by omega, by simp, rfl, rfl⟩
  case round =>
    obtain ⟨k, hk, rfl, rfl, rfl⟩ := hrel
    have HK := Aside0.mk hk
    by_cases hlt : k < n
    · obtain ⟨ad, x, rfl, hx, hc⟩ := at_int' HL.out k (by omega)
      have hxe : x = (IntKind.i16.wrap (m + (k : Int))) := by
        have h2 := hx.out
        rw [List.getElem?_map, upI_at m hlt] at h2
        simp only [Option.map_some, Option.some.injEq] at h2
        exact h2.symm
      subst hxe
      have i0 : (0 : Int) ≤ (k : Int) := by omega
      have i1 : (k : Int) < (n : Int) := by omega
      have hb : (((IntKind.i16.wrap (m + (k : Int)))) != ((IntKind.i16.wrap (m + (k : Int))))) = false := by simp
      clear hk hx
      go_wp2
      go_roundg (gk - 1)
      case measure => have := HK.out; omega
      case rel => exact ⟨k + 1, by have := HK.out; omega, by go_num, by go_num, rfl⟩
    · have HN := Aside0.mk (show (m + (k : Int)) = m + n by omega)
      clear hk
      go_wp2
      go_ret
      exact ⟨ret_int HN.out, rfl⟩
set_option maxHeartbeats 1000000 in
theorem heldCase_c (a b : Int) (A : Option Addr) (c n : Nat) (m : Int) (w : World) (hL : (Kd.int .i16).C w A n ((upI m n).map (fun x => IntKind.i16.wrap x))) (h0 : 0 ≤ m) (h1 : m ≤ 1000000000) (hn : n ≤ 2097152) :
    Calls Tryd.prog 42 #[.agg #[.int .i16 a, .int .i32 b, .slice A n c], .int .i64 m] w (Ret w (.int .i64 (m + n))) := by
  have HH := Aside0.mk (heldInt16S_c A c n m _ (Kd.C_alloc hL (.cells #[.int .i16 a, .int .i32 b, .slice A n c] 54)) h0 h1 hn)
  have hlt : ¬ (m + (n : Int) < 0) := by omega
  clear hL
  go_enter Tryd.func42, Tryd.ntmps42
  go_wp2_with fail
  refine HH.out.mono ?_; rintro _ w1 ⟨rfl, rfl⟩
  go_wp2
  go_ret
  exact ⟨rfl, balloc (Below.refl _ _) _⟩
end Go.Proofs.YtgibcacciedobaaDoor
