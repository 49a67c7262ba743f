/- The law FnExactValidBook returns true of every book. -/
import Derived.Test.YtgdhopcbiekhhaaSpecBook
import Derived.Test.YtgdhopcbiekhhaaTo
namespace Go.Proofs.Ytgdhopcbiekhhaa
open Go.RowKit Go.Proofs.YtgdhopcbiekhhaaW.PrintWords Go.Proofs.YtgdhopcbiekhhaaW.PrintMore
set_option linter.unusedVariables false
set_option linter.unusedSimpArgs false
set_option maxRecDepth 100000

set_option maxHeartbeats 1000000 in
theorem FnExactValidBook_c (b : Bk) (hok : b.ok) (w : World) : Calls Try.prog 6 #[b.val] w (Ret w (.bool true)) := by
  have hbox := fun W (h : Below _ _ W) => (BkAt.box w b 32).below h
  have HX := Aside0.mk hbox
  have HB := Aside0.mk (Below.refl (w.alloc (.cells #[.int .i16 b.c, .int .u8 b.m0, .int .u8 b.m1, .int .u8 b.m2, .int .i16 b.v, .int .i16 b.wd, .int .i16 b.h, .int .i16 b.wt] 32)).heap.size (w.alloc (.cells #[.int .i16 b.c, .int .u8 b.m0, .int .u8 b.m1, .int .u8 b.m2, .int .i16 b.v, .int .i16 b.wd, .int .i16 b.h, .int .i16 b.wt] 32)))
  clear hbox
  simp only [Bk.val]
  go_enter Try.func6, Try.ntmps6
  go_wp2_with (first | (go_at_call 32; refine (toBook_c b _).mono ?_; rintro _ wn ⟨rfl, hb⟩; have HBn := Aside0.mk (bstep HB.out hb); clear hb HB; have HB := HBn; clear HBn; obtain ⟨y0, y1, y2, y3, y4, y5, y6, y7⟩ := HX.out _ HB.out) | (go_at_call 31; refine (specValidBook_c b hok _).mono ?_; rintro _ wn ⟨rfl, hb⟩; have HBn := Aside0.mk (bstep HB.out hb); clear hb HB; have HB := HBn; clear HBn; obtain ⟨y0, y1, y2, y3, y4, y5, y6, y7⟩ := HX.out _ HB.out) | (go_at_call 33; refine (ValidBook_c b _).mono ?_; rintro _ wn ⟨rfl, hb⟩; have HBn := Aside0.mk (bstep HB.out hb); clear hb HB; have HB := HBn; clear HBn; obtain ⟨y0, y1, y2, y3, y4, y5, y6, y7⟩ := HX.out _ HB.out))
  all_goals (go_ret; exact ⟨rfl, bstep (balloc (Below.refl _ _) _) HB.out⟩)
end Go.Proofs.Ytgdhopcbiekhhaa
