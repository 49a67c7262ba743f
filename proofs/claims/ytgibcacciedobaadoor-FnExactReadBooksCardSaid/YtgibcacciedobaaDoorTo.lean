/- The laws' copies of books: toByteA3, toBook, toBookS, szBookS. -/
import Derived.Test.YtgibcacciedobaaDoorBase
namespace Go.Proofs.YtgibcacciedobaaDoor
open Go.RowKit Go.Proofs.YtgibcacciedobaaDoorW.PrintWords Go.Proofs.YtgibcacciedobaaDoorW.PrintMore
set_option linter.unusedVariables false
set_option linter.unusedSimpArgs false
set_option maxRecDepth 100000

set_option maxHeartbeats 1000000 in
theorem toByteA3_c (x y z : Int) (w : World) : Calls Tryd.prog 45 #[.agg #[.int .u8 x, .int .u8 y, .int .u8 z]] w (Ret w (.agg #[.int .u8 x, .int .u8 y, .int .u8 z])) := by
  go_enter Tryd.func45, Tryd.ntmps45
  go_wp2
  refine wp_loop_rounds 4 ?_
  rw [rounds_succ]
  go_wp2
  rw [rounds_succ]
  go_wp2
  rw [rounds_succ]
  go_wp2
  rw [rounds_succ]
  go_wp2
  refine bodyPost_ret (v := .agg #[.int .u8 x, .int .u8 y, .int .u8 z]) (by simp [results, Tryd.results45, go_sem]) rfl ⟨rfl, ?_⟩
  exact balloc (balloc (balloc (Below.refl _ _) _) _) _
set_option maxHeartbeats 1000000 in
theorem toBook_c (b : Bk) (w : World) : Calls Tryd.prog 12 #[b.val] w (Ret w b.val) := by
  simp only [Bk.val]
  go_enter Tryd.func12, Tryd.ntmps12
  go_wp2_with (go_at_call 45; refine (toByteA3_c _ _ _ _).mono ?_; rintro _ w1 ⟨rfl, hb1⟩; have HB1 := Aside0.mk hb1; have hz := hb1.size; simp at hz; obtain ⟨hc1, hf1⟩ := bcell hb1; clear hb1)
  refine bodyPost_ret (v := .agg #[.int .i16 b.c, .int .u8 b.m0, .int .u8 b.m1, .int .u8 b.m2, .int .i16 b.v, .int .i16 b.wd, .int .i16 b.h, .int .i16 b.wt]) (by simp [results, Tryd.results12, go_sem, hc1, hf1, hz]) rfl ⟨rfl, ?_⟩
  clear hc1 hf1
  repeat (refine Below.setCell ?_ (by first | (simp; done) | (simp; omega)) _)
  exact bstep (balloc (balloc (balloc (Below.refl _ _) _) _) _) HB1.out
end Go.Proofs.YtgibcacciedobaaDoor
