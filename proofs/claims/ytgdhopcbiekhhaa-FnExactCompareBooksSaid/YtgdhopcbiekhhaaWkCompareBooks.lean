/- The law FnExactCompareBooks returns true of every input. -/
import Derived.Test.YtgdhopcbiekhhaaCmpU
import Derived.Test.YtgdhopcbiekhhaaTo
import Derived.Deep.RegionHeld3
namespace Go.Proofs.Ytgdhopcbiekhhaa
open Go.RowKit Go.Proofs.YtgdhopcbiekhhaaW.PrintWords Go.Proofs.YtgdhopcbiekhhaaW.PrintMore
set_option linter.unusedVariables false
set_option linter.unusedSimpArgs false
set_option maxRecDepth 100000

set_option maxHeartbeats 4000000 in
theorem FnExactCompareBooks_c (b0 : Bk) (hok0 : b0.ok) (b1 : Bk) (hok1 : b1.ok) (w : World) :
    Calls Try.prog 9 #[b0.val, b1.val] w (Ret w (.bool true)) := by
  have HO0 := Aside0.mk hok0
  clear hok0
  have HO1 := Aside0.mk hok1
  clear hok1
  have HX0 := Aside0.mk (BkAt.box w b0 32)
  have HX1 := Aside0.mk (BkAt.box (w.alloc (.cells #[.int .i16 b0.c, .int .u8 b0.m0, .int .u8 b0.m1, .int .u8 b0.m2, .int .i16 b0.v, .int .i16 b0.wd, .int .i16 b0.h, .int .i16 b0.wt] 32)) b1 32)
  have HY0 := Aside0.mk (show ∀ W, Below (((w.alloc (.cells #[.int .i16 b0.c, .int .u8 b0.m0, .int .u8 b0.m1, .int .u8 b0.m2, .int .i16 b0.v, .int .i16 b0.wd, .int .i16 b0.h, .int .i16 b0.wt] 32)).alloc (.cells #[.int .i16 b1.c, .int .u8 b1.m0, .int .u8 b1.m1, .int .u8 b1.m2, .int .i16 b1.v, .int .i16 b1.wd, .int .i16 b1.h, .int .i16 b1.wt] 32))).heap.size ((w.alloc (.cells #[.int .i16 b0.c, .int .u8 b0.m0, .int .u8 b0.m1, .int .u8 b0.m2, .int .i16 b0.v, .int .i16 b0.wd, .int .i16 b0.h, .int .i16 b0.wt] 32)).alloc (.cells #[.int .i16 b1.c, .int .u8 b1.m0, .int .u8 b1.m1, .int .u8 b1.m2, .int .i16 b1.v, .int .i16 b1.wd, .int .i16 b1.h, .int .i16 b1.wt] 32)) W → BkAt W ⟨(w).heap.size, 0, none⟩ b0 from fun W h => (HX0.out.below (balloc (Below.refl _ _) _)).below h)
  have hza1 : ((w.alloc (.cells #[.int .i16 b0.c, .int .u8 b0.m0, .int .u8 b0.m1, .int .u8 b0.m2, .int .i16 b0.v, .int .i16 b0.wd, .int .i16 b0.h, .int .i16 b0.wt] 32))).heap.size = w.heap.size + 1 := by simp only [World.size_alloc]
  have HZA1 := Aside0.mk hza1
  clear hza1
  have HY1 := Aside0.mk (show ∀ W, Below (((w.alloc (.cells #[.int .i16 b0.c, .int .u8 b0.m0, .int .u8 b0.m1, .int .u8 b0.m2, .int .i16 b0.v, .int .i16 b0.wd, .int .i16 b0.h, .int .i16 b0.wt] 32)).alloc (.cells #[.int .i16 b1.c, .int .u8 b1.m0, .int .u8 b1.m1, .int .u8 b1.m2, .int .i16 b1.v, .int .i16 b1.wd, .int .i16 b1.h, .int .i16 b1.wt] 32))).heap.size ((w.alloc (.cells #[.int .i16 b0.c, .int .u8 b0.m0, .int .u8 b0.m1, .int .u8 b0.m2, .int .i16 b0.v, .int .i16 b0.wd, .int .i16 b0.h, .int .i16 b0.wt] 32)).alloc (.cells #[.int .i16 b1.c, .int .u8 b1.m0, .int .u8 b1.m1, .int .u8 b1.m2, .int .i16 b1.v, .int .i16 b1.wd, .int .i16 b1.h, .int .i16 b1.wt] 32)) W → BkAt W ⟨((w.alloc (.cells #[.int .i16 b0.c, .int .u8 b0.m0, .int .u8 b0.m1, .int .u8 b0.m2, .int .i16 b0.v, .int .i16 b0.wd, .int .i16 b0.h, .int .i16 b0.wt] 32))).heap.size, 0, none⟩ b1 from fun W h => HX1.out.below h)
  rw [HZA1.out] at HY1
  have HB0 := Aside0.mk (Below.refl (((w.alloc (.cells #[.int .i16 b0.c, .int .u8 b0.m0, .int .u8 b0.m1, .int .u8 b0.m2, .int .i16 b0.v, .int .i16 b0.wd, .int .i16 b0.h, .int .i16 b0.wt] 32)).alloc (.cells #[.int .i16 b1.c, .int .u8 b1.m0, .int .u8 b1.m1, .int .u8 b1.m2, .int .i16 b1.v, .int .i16 b1.wd, .int .i16 b1.h, .int .i16 b1.wt] 32))).heap.size ((w.alloc (.cells #[.int .i16 b0.c, .int .u8 b0.m0, .int .u8 b0.m1, .int .u8 b0.m2, .int .i16 b0.v, .int .i16 b0.wd, .int .i16 b0.h, .int .i16 b0.wt] 32)).alloc (.cells #[.int .i16 b1.c, .int .u8 b1.m0, .int .u8 b1.m1, .int .u8 b1.m2, .int .i16 b1.v, .int .i16 b1.wd, .int .i16 b1.h, .int .i16 b1.wt] 32)))
  have HW := Aside0.mk (show Below w.heap.size w ((w.alloc (.cells #[.int .i16 b0.c, .int .u8 b0.m0, .int .u8 b0.m1, .int .u8 b0.m2, .int .i16 b0.v, .int .i16 b0.wd, .int .i16 b0.h, .int .i16 b0.wt] 32)).alloc (.cells #[.int .i16 b1.c, .int .u8 b1.m0, .int .u8 b1.m1, .int .u8 b1.m2, .int .i16 b1.v, .int .i16 b1.wd, .int .i16 b1.h, .int .i16 b1.wt] 32)) from balloc (balloc (Below.refl _ _) _) _)
  have hzs : w.heap.size + 2 ≤ (((w.alloc (.cells #[.int .i16 b0.c, .int .u8 b0.m0, .int .u8 b0.m1, .int .u8 b0.m2, .int .i16 b0.v, .int .i16 b0.wd, .int .i16 b0.h, .int .i16 b0.wt] 32)).alloc (.cells #[.int .i16 b1.c, .int .u8 b1.m0, .int .u8 b1.m1, .int .u8 b1.m2, .int .i16 b1.v, .int .i16 b1.wd, .int .i16 b1.h, .int .i16 b1.wt] 32))).heap.size := by simp only [World.size_alloc]; omega
  clear hzs
  simp only [Bk.val]
  go_enter Try.func9, Try.ntmps9
  go_wp2_with fail
  generalize HW0E : World.alloc (World.alloc w _) _ = W0_ at HW HB0 HY0 HY1 ⊢
  clear HW0E
  have HYA := Aside0.mk (show ∀ w', Below W0_.heap.size W0_ w' → Below W0_.heap.size W0_ w' ∧ (w'.cell? ⟨w.heap.size, 0, none⟩ = some (.int .i16 b0.c) ∧ w'.cell? ⟨w.heap.size, 1, none⟩ = some (.int .u8 b0.m0) ∧ w'.cell? ⟨w.heap.size, 2, none⟩ = some (.int .u8 b0.m1) ∧ w'.cell? ⟨w.heap.size, 3, none⟩ = some (.int .u8 b0.m2) ∧ w'.cell? ⟨w.heap.size, 4, none⟩ = some (.int .i16 b0.v) ∧ w'.cell? ⟨w.heap.size, 5, none⟩ = some (.int .i16 b0.wd) ∧ w'.cell? ⟨w.heap.size, 6, none⟩ = some (.int .i16 b0.h) ∧ w'.cell? ⟨w.heap.size, 7, none⟩ = some (.int .i16 b0.wt)) ∧ (w'.cell? ⟨w.heap.size + 1, 0, none⟩ = some (.int .i16 b1.c) ∧ w'.cell? ⟨w.heap.size + 1, 1, none⟩ = some (.int .u8 b1.m0) ∧ w'.cell? ⟨w.heap.size + 1, 2, none⟩ = some (.int .u8 b1.m1) ∧ w'.cell? ⟨w.heap.size + 1, 3, none⟩ = some (.int .u8 b1.m2) ∧ w'.cell? ⟨w.heap.size + 1, 4, none⟩ = some (.int .i16 b1.v) ∧ w'.cell? ⟨w.heap.size + 1, 5, none⟩ = some (.int .i16 b1.wd) ∧ w'.cell? ⟨w.heap.size + 1, 6, none⟩ = some (.int .i16 b1.h) ∧ w'.cell? ⟨w.heap.size + 1, 7, none⟩ = some (.int .i16 b1.wt)) from fun w' h => ⟨h, by obtain ⟨a0, a1, a2, a3, a4, a5, a6, a7⟩ := HY0.out _ h; exact ⟨a0, a1, a2, a3, a4, a5, a6, a7⟩, by obtain ⟨a0, a1, a2, a3, a4, a5, a6, a7⟩ := HY1.out _ h; exact ⟨a0, a1, a2, a3, a4, a5, a6, a7⟩⟩)
  go_region_held3 (fun w' => Below W0_.heap.size W0_ w' ∧ (w'.cell? ⟨w.heap.size, 0, none⟩ = some (.int .i16 b0.c) ∧ w'.cell? ⟨w.heap.size, 1, none⟩ = some (.int .u8 b0.m0) ∧ w'.cell? ⟨w.heap.size, 2, none⟩ = some (.int .u8 b0.m1) ∧ w'.cell? ⟨w.heap.size, 3, none⟩ = some (.int .u8 b0.m2) ∧ w'.cell? ⟨w.heap.size, 4, none⟩ = some (.int .i16 b0.v) ∧ w'.cell? ⟨w.heap.size, 5, none⟩ = some (.int .i16 b0.wd) ∧ w'.cell? ⟨w.heap.size, 6, none⟩ = some (.int .i16 b0.h) ∧ w'.cell? ⟨w.heap.size, 7, none⟩ = some (.int .i16 b0.wt)) ∧ (w'.cell? ⟨w.heap.size + 1, 0, none⟩ = some (.int .i16 b1.c) ∧ w'.cell? ⟨w.heap.size + 1, 1, none⟩ = some (.int .u8 b1.m0) ∧ w'.cell? ⟨w.heap.size + 1, 2, none⟩ = some (.int .u8 b1.m1) ∧ w'.cell? ⟨w.heap.size + 1, 3, none⟩ = some (.int .u8 b1.m2) ∧ w'.cell? ⟨w.heap.size + 1, 4, none⟩ = some (.int .i16 b1.v) ∧ w'.cell? ⟨w.heap.size + 1, 5, none⟩ = some (.int .i16 b1.wd) ∧ w'.cell? ⟨w.heap.size + 1, 6, none⟩ = some (.int .i16 b1.h) ∧ w'.cell? ⟨w.heap.size + 1, 7, none⟩ = some (.int .i16 b1.wt)))
    (first | exact HYA.out _ (bdrew HB0.out) | exact HYA.out _ (bstep (And.left (by assumption)) hb1) | exact HYA.out _ (bstep (And.left (by assumption)) hb2) | exact HYA.out _ (bstep (And.left (by assumption)) hb3))
    (first | (go_at_call_of 32 (Value.agg #[.int .i16 b0.c, .int .u8 b0.m0, .int .u8 b0.m1, .int .u8 b0.m2, .int .i16 b0.v, .int .i16 b0.wd, .int .i16 b0.h, .int .i16 b0.wt]); refine (toBook_c b0 _).mono ?_; rintro _ w1_ ⟨rfl, hb1⟩) | (go_at_call_of 32 (Value.agg #[.int .i16 b1.c, .int .u8 b1.m0, .int .u8 b1.m1, .int .u8 b1.m2, .int .i16 b1.v, .int .i16 b1.wd, .int .i16 b1.h, .int .i16 b1.wt]); refine (toBook_c b1 _).mono ?_; rintro _ w2_ ⟨rfl, hb2⟩) | (go_at_call 41; refine (specCompareBooks_c b0 b1 HO0.out HO1.out _).mono ?_; rintro _ w3_ ⟨rfl, hb3⟩))
  have HB3 := Aside0.mk (show Below W0_.heap.size W0_ w3_ from And.left (by assumption))
  clear hb1 hb2 hb3
  obtain ⟨y00, y01, y02, y03, y04, y05, y06, y07⟩ := HY0.out _ HB3.out
  obtain ⟨y10, y11, y12, y13, y14, y15, y16, y17⟩ := HY1.out _ HB3.out
  go_wp2_with fail
  go_region_held3 (fun w' => Below W0_.heap.size W0_ w' ∧ (w'.cell? ⟨w.heap.size, 0, none⟩ = some (.int .i16 b0.c) ∧ w'.cell? ⟨w.heap.size, 1, none⟩ = some (.int .u8 b0.m0) ∧ w'.cell? ⟨w.heap.size, 2, none⟩ = some (.int .u8 b0.m1) ∧ w'.cell? ⟨w.heap.size, 3, none⟩ = some (.int .u8 b0.m2) ∧ w'.cell? ⟨w.heap.size, 4, none⟩ = some (.int .i16 b0.v) ∧ w'.cell? ⟨w.heap.size, 5, none⟩ = some (.int .i16 b0.wd) ∧ w'.cell? ⟨w.heap.size, 6, none⟩ = some (.int .i16 b0.h) ∧ w'.cell? ⟨w.heap.size, 7, none⟩ = some (.int .i16 b0.wt)) ∧ (w'.cell? ⟨w.heap.size + 1, 0, none⟩ = some (.int .i16 b1.c) ∧ w'.cell? ⟨w.heap.size + 1, 1, none⟩ = some (.int .u8 b1.m0) ∧ w'.cell? ⟨w.heap.size + 1, 2, none⟩ = some (.int .u8 b1.m1) ∧ w'.cell? ⟨w.heap.size + 1, 3, none⟩ = some (.int .u8 b1.m2) ∧ w'.cell? ⟨w.heap.size + 1, 4, none⟩ = some (.int .i16 b1.v) ∧ w'.cell? ⟨w.heap.size + 1, 5, none⟩ = some (.int .i16 b1.wd) ∧ w'.cell? ⟨w.heap.size + 1, 6, none⟩ = some (.int .i16 b1.h) ∧ w'.cell? ⟨w.heap.size + 1, 7, none⟩ = some (.int .i16 b1.wt)))
    (first | exact HYA.out _ (bdrew HB3.out) | exact HYA.out _ (bstep (And.left (by assumption)) hb4) | exact HYA.out _ (bstep (And.left (by assumption)) hb5) | exact HYA.out _ (bstep (And.left (by assumption)) hb6))
    (first | (go_at_call_of 32 (Value.agg #[.int .i16 b0.c, .int .u8 b0.m0, .int .u8 b0.m1, .int .u8 b0.m2, .int .i16 b0.v, .int .i16 b0.wd, .int .i16 b0.h, .int .i16 b0.wt]); refine (toBook_c b0 _).mono ?_; rintro _ w4_ ⟨rfl, hb4⟩) | (go_at_call_of 32 (Value.agg #[.int .i16 b1.c, .int .u8 b1.m0, .int .u8 b1.m1, .int .u8 b1.m2, .int .i16 b1.v, .int .i16 b1.wd, .int .i16 b1.h, .int .i16 b1.wt]); refine (toBook_c b1 _).mono ?_; rintro _ w5_ ⟨rfl, hb5⟩) | (go_at_call 42; refine (CompareBooks_c b0 b1 _).mono ?_; rintro _ w6_ ⟨rfl, hb6⟩))
  have HB6 := Aside0.mk (show Below W0_.heap.size W0_ w6_ from And.left (by assumption))
  clear hb4 hb5 hb6
  obtain ⟨y00, y01, y02, y03, y04, y05, y06, y07⟩ := HY0.out _ HB6.out
  obtain ⟨y10, y11, y12, y13, y14, y15, y16, y17⟩ := HY1.out _ HB6.out
  go_wp2_with fail
  go_ret
  exact ⟨rfl, (HW.out.trans (HB6.out.mono (HW.out.size)))⟩
end Go.Proofs.Ytgdhopcbiekhhaa
