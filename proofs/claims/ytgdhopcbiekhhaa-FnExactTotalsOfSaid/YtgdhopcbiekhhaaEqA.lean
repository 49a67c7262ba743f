/- Arrays of whole numbers are equal to themselves: the laws' comparison. -/
import Derived.Test.YtgdhopcbiekhhaaCmpT
import Derived.StillTailTactics
import Derived.Still
namespace Go.Proofs.Ytgdhopcbiekhhaa
open Go.RowKit Go.Proofs.YtgdhopcbiekhhaaW.PrintWords Go.Proofs.YtgdhopcbiekhhaaW.PrintMore
set_option linter.unusedVariables false
set_option linter.unusedSimpArgs false
set_option maxRecDepth 100000

set_option maxHeartbeats 4000000 in
theorem eqA3_c (x y z : Int) (w : World) : Calls Try.prog 48 #[.agg #[.int .i64 x, .int .i64 y, .int .i64 z], .agg #[.int .i64 x, .int .i64 y, .int .i64 z]] w (Ret w (.bool true)) := by
  have a0 := (ArrAt.box w x y z 51).below (balloc (Below.refl _ _) (.cells #[.int .i64 x, .int .i64 y, .int .i64 z] 51))
  have b0 := ArrAt.box (w.alloc (.cells #[.int .i64 x, .int .i64 y, .int .i64 z] 51)) x y z 51
  rw [World.size_alloc] at b0
  have HB := Aside0.mk (balloc (balloc (Below.refl w.heap.size w) (.cells #[.int .i64 x, .int .i64 y, .int .i64 z] 51)) (.cells #[.int .i64 x, .int .i64 y, .int .i64 z] 51))
  have H0 := Aside0.mk a0
  have H1 := Aside0.mk b0
  clear a0 b0
  go_enter Try.func48, Try.ntmps48
  go_wp2
  generalize World.alloc (World.alloc w _) _ = w1 at H0 H1 HB ⊢
  obtain ⟨c0, c1, c2⟩ := H0.out
  obtain ⟨d0, d1, d2⟩ := H1.out
  refine wp_loop_rounds 4 ?_
  iterate 3 (rw [rounds_succ]; go_wp2_with fail; go_quiet (fail); go_wp2)
  rw [rounds_succ]
  go_wp2_with fail
  go_ret
  exact ⟨rfl, by repeat (first | exact HB.out | refine bdrewN ?_ _)⟩
end Go.Proofs.Ytgdhopcbiekhhaa
