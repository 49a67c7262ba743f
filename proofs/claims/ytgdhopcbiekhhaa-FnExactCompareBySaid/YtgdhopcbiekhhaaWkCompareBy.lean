/- The law FnExactCompareBy returns true of every input. -/
import Derived.Test.YtgdhopcbiekhhaaCompareBy
import Derived.Test.YtgdhopcbiekhhaaScal
import Derived.Test.YtgdhopcbiekhhaaTo
import Derived.Deep.RegionHeld3
namespace Go.Proofs.Ytgdhopcbiekhhaa
open Go.RowKit Go.Proofs.YtgdhopcbiekhhaaW.PrintWords Go.Proofs.YtgdhopcbiekhhaaW.PrintMore
set_option linter.unusedVariables false
set_option linter.unusedSimpArgs false
set_option maxRecDepth 100000

set_option maxHeartbeats 4000000 in
theorem FnExactCompareBy_c {w : World} (A0 : Option Addr) (c0 : Nat) (L0 : List Int) (hlc0 : L0.length ≤ c0) (hL0 : (Kd.int .i8).C w A0 L0.length L0) (hok0 : OkI8 L0) (b1 : Bk) (hok1 : b1.ok) (b2 : Bk) (hok2 : b2.ok) :
    Calls Try.prog 12 #[.slice A0 L0.length c0, b1.val, b2.val] w (Ret w (.bool true)) := by
  have hr0 := Kd.C_max hL0
  have HR0 := Aside0.mk hr0
  have HL0 := Aside0.mk hL0
  have HO0 := Aside0.mk hok0
  clear hL0 hok0 hr0
  have HO1 := Aside0.mk hok1
  clear hok1
  have HO2 := Aside0.mk hok2
  clear hok2
  have HX1 := Aside0.mk (BkAt.box w b1 32)
  have HX2 := Aside0.mk (BkAt.box (w.alloc (.cells #[.int .i16 b1.c, .int .u8 b1.m0, .int .u8 b1.m1, .int .u8 b1.m2, .int .i16 b1.v, .int .i16 b1.wd, .int .i16 b1.h, .int .i16 b1.wt] 32)) b2 32)
  have HY1 := Aside0.mk (show ∀ W, Below (((w.alloc (.cells #[.int .i16 b1.c, .int .u8 b1.m0, .int .u8 b1.m1, .int .u8 b1.m2, .int .i16 b1.v, .int .i16 b1.wd, .int .i16 b1.h, .int .i16 b1.wt] 32)).alloc (.cells #[.int .i16 b2.c, .int .u8 b2.m0, .int .u8 b2.m1, .int .u8 b2.m2, .int .i16 b2.v, .int .i16 b2.wd, .int .i16 b2.h, .int .i16 b2.wt] 32))).heap.size ((w.alloc (.cells #[.int .i16 b1.c, .int .u8 b1.m0, .int .u8 b1.m1, .int .u8 b1.m2, .int .i16 b1.v, .int .i16 b1.wd, .int .i16 b1.h, .int .i16 b1.wt] 32)).alloc (.cells #[.int .i16 b2.c, .int .u8 b2.m0, .int .u8 b2.m1, .int .u8 b2.m2, .int .i16 b2.v, .int .i16 b2.wd, .int .i16 b2.h, .int .i16 b2.wt] 32)) W → BkAt W ⟨(w).heap.size, 0, none⟩ b1 from fun W h => (HX1.out.below (balloc (Below.refl _ _) _)).below h)
  have hza2 : ((w.alloc (.cells #[.int .i16 b1.c, .int .u8 b1.m0, .int .u8 b1.m1, .int .u8 b1.m2, .int .i16 b1.v, .int .i16 b1.wd, .int .i16 b1.h, .int .i16 b1.wt] 32))).heap.size = w.heap.size + 1 := by simp only [World.size_alloc]
  have HZA2 := Aside0.mk hza2
  clear hza2
  have HY2 := Aside0.mk (show ∀ W, Below (((w.alloc (.cells #[.int .i16 b1.c, .int .u8 b1.m0, .int .u8 b1.m1, .int .u8 b1.m2, .int .i16 b1.v, .int .i16 b1.wd, .int .i16 b1.h, .int .i16 b1.wt] 32)).alloc (.cells #[.int .i16 b2.c, .int .u8 b2.m0, .int .u8 b2.m1, .int .u8 b2.m2, .int .i16 b2.v, .int .i16 b2.wd, .int .i16 b2.h, .int .i16 b2.wt] 32))).heap.size ((w.alloc (.cells #[.int .i16 b1.c, .int .u8 b1.m0, .int .u8 b1.m1, .int .u8 b1.m2, .int .i16 b1.v, .int .i16 b1.wd, .int .i16 b1.h, .int .i16 b1.wt] 32)).alloc (.cells #[.int .i16 b2.c, .int .u8 b2.m0, .int .u8 b2.m1, .int .u8 b2.m2, .int .i16 b2.v, .int .i16 b2.wd, .int .i16 b2.h, .int .i16 b2.wt] 32)) W → BkAt W ⟨((w.alloc (.cells #[.int .i16 b1.c, .int .u8 b1.m0, .int .u8 b1.m1, .int .u8 b1.m2, .int .i16 b1.v, .int .i16 b1.wd, .int .i16 b1.h, .int .i16 b1.wt] 32))).heap.size, 0, none⟩ b2 from fun W h => HX2.out.below h)
  rw [HZA2.out] at HY2
  have HB0 := Aside0.mk (Below.refl (((w.alloc (.cells #[.int .i16 b1.c, .int .u8 b1.m0, .int .u8 b1.m1, .int .u8 b1.m2, .int .i16 b1.v, .int .i16 b1.wd, .int .i16 b1.h, .int .i16 b1.wt] 32)).alloc (.cells #[.int .i16 b2.c, .int .u8 b2.m0, .int .u8 b2.m1, .int .u8 b2.m2, .int .i16 b2.v, .int .i16 b2.wd, .int .i16 b2.h, .int .i16 b2.wt] 32))).heap.size ((w.alloc (.cells #[.int .i16 b1.c, .int .u8 b1.m0, .int .u8 b1.m1, .int .u8 b1.m2, .int .i16 b1.v, .int .i16 b1.wd, .int .i16 b1.h, .int .i16 b1.wt] 32)).alloc (.cells #[.int .i16 b2.c, .int .u8 b2.m0, .int .u8 b2.m1, .int .u8 b2.m2, .int .i16 b2.v, .int .i16 b2.wd, .int .i16 b2.h, .int .i16 b2.wt] 32)))
  have HW := Aside0.mk (show Below w.heap.size w ((w.alloc (.cells #[.int .i16 b1.c, .int .u8 b1.m0, .int .u8 b1.m1, .int .u8 b1.m2, .int .i16 b1.v, .int .i16 b1.wd, .int .i16 b1.h, .int .i16 b1.wt] 32)).alloc (.cells #[.int .i16 b2.c, .int .u8 b2.m0, .int .u8 b2.m1, .int .u8 b2.m2, .int .i16 b2.v, .int .i16 b2.wd, .int .i16 b2.h, .int .i16 b2.wt] 32)) from balloc (balloc (Below.refl _ _) _) _)
  have hzs : w.heap.size + 2 ≤ (((w.alloc (.cells #[.int .i16 b1.c, .int .u8 b1.m0, .int .u8 b1.m1, .int .u8 b1.m2, .int .i16 b1.v, .int .i16 b1.wd, .int .i16 b1.h, .int .i16 b1.wt] 32)).alloc (.cells #[.int .i16 b2.c, .int .u8 b2.m0, .int .u8 b2.m1, .int .u8 b2.m2, .int .i16 b2.v, .int .i16 b2.wd, .int .i16 b2.h, .int .i16 b2.wt] 32))).heap.size := by simp only [World.size_alloc]; omega
  clear hzs
  simp only [Bk.val]
  by_cases hlt0 : 1048576 < L0.length
  · have hlti0 : (1048576 : Int) < (L0.length : Int) := by omega
    go_enter Try.func12, Try.ntmps12
    go_wp2_with fail
    go_ret
    exact ⟨rfl, balloc (balloc (Below.refl _ _) _) _⟩
  · have hle0 : (L0.length : Int) ≤ 1048576 := by omega
    have HN0 := Aside0.mk (show L0.length ≤ 2097152 by omega)
    go_enter Try.func12, Try.ntmps12
    go_wp2_with fail
    generalize HW0E : World.alloc (World.alloc w _) _ = W0_ at HW HB0 HY1 HY2 ⊢
    clear HW0E
    have HYA := Aside0.mk (show ∀ w', Below W0_.heap.size W0_ w' → Below W0_.heap.size W0_ w' ∧ (w'.cell? ⟨w.heap.size, 0, none⟩ = some (.int .i16 b1.c) ∧ w'.cell? ⟨w.heap.size, 1, none⟩ = some (.int .u8 b1.m0) ∧ w'.cell? ⟨w.heap.size, 2, none⟩ = some (.int .u8 b1.m1) ∧ w'.cell? ⟨w.heap.size, 3, none⟩ = some (.int .u8 b1.m2) ∧ w'.cell? ⟨w.heap.size, 4, none⟩ = some (.int .i16 b1.v) ∧ w'.cell? ⟨w.heap.size, 5, none⟩ = some (.int .i16 b1.wd) ∧ w'.cell? ⟨w.heap.size, 6, none⟩ = some (.int .i16 b1.h) ∧ w'.cell? ⟨w.heap.size, 7, none⟩ = some (.int .i16 b1.wt)) ∧ (w'.cell? ⟨w.heap.size + 1, 0, none⟩ = some (.int .i16 b2.c) ∧ w'.cell? ⟨w.heap.size + 1, 1, none⟩ = some (.int .u8 b2.m0) ∧ w'.cell? ⟨w.heap.size + 1, 2, none⟩ = some (.int .u8 b2.m1) ∧ w'.cell? ⟨w.heap.size + 1, 3, none⟩ = some (.int .u8 b2.m2) ∧ w'.cell? ⟨w.heap.size + 1, 4, none⟩ = some (.int .i16 b2.v) ∧ w'.cell? ⟨w.heap.size + 1, 5, none⟩ = some (.int .i16 b2.wd) ∧ w'.cell? ⟨w.heap.size + 1, 6, none⟩ = some (.int .i16 b2.h) ∧ w'.cell? ⟨w.heap.size + 1, 7, none⟩ = some (.int .i16 b2.wt)) from fun w' h => ⟨h, by obtain ⟨a0, a1, a2, a3, a4, a5, a6, a7⟩ := HY1.out _ h; exact ⟨a0, a1, a2, a3, a4, a5, a6, a7⟩, by obtain ⟨a0, a1, a2, a3, a4, a5, a6, a7⟩ := HY2.out _ h; exact ⟨a0, a1, a2, a3, a4, a5, a6, a7⟩⟩)
    have HQ0 := Aside0.mk (show ∀ w', Below W0_.heap.size W0_ w' → (Kd.int .i8).C w' A0 L0.length L0 from fun w' h => Kd.C_below HL0.out (HW.out.trans (h.mono HW.out.size)))
    go_region_held3 (fun w' => Below W0_.heap.size W0_ w' ∧ (w'.cell? ⟨w.heap.size, 0, none⟩ = some (.int .i16 b1.c) ∧ w'.cell? ⟨w.heap.size, 1, none⟩ = some (.int .u8 b1.m0) ∧ w'.cell? ⟨w.heap.size, 2, none⟩ = some (.int .u8 b1.m1) ∧ w'.cell? ⟨w.heap.size, 3, none⟩ = some (.int .u8 b1.m2) ∧ w'.cell? ⟨w.heap.size, 4, none⟩ = some (.int .i16 b1.v) ∧ w'.cell? ⟨w.heap.size, 5, none⟩ = some (.int .i16 b1.wd) ∧ w'.cell? ⟨w.heap.size, 6, none⟩ = some (.int .i16 b1.h) ∧ w'.cell? ⟨w.heap.size, 7, none⟩ = some (.int .i16 b1.wt)) ∧ (w'.cell? ⟨w.heap.size + 1, 0, none⟩ = some (.int .i16 b2.c) ∧ w'.cell? ⟨w.heap.size + 1, 1, none⟩ = some (.int .u8 b2.m0) ∧ w'.cell? ⟨w.heap.size + 1, 2, none⟩ = some (.int .u8 b2.m1) ∧ w'.cell? ⟨w.heap.size + 1, 3, none⟩ = some (.int .u8 b2.m2) ∧ w'.cell? ⟨w.heap.size + 1, 4, none⟩ = some (.int .i16 b2.v) ∧ w'.cell? ⟨w.heap.size + 1, 5, none⟩ = some (.int .i16 b2.wd) ∧ w'.cell? ⟨w.heap.size + 1, 6, none⟩ = some (.int .i16 b2.h) ∧ w'.cell? ⟨w.heap.size + 1, 7, none⟩ = some (.int .i16 b2.wt)))
      (first | exact HYA.out _ (bdrew HB0.out) | exact HYA.out _ (bstep (And.left (by assumption)) hb1) | exact HYA.out _ (bstep (And.left (by assumption)) hb2) | exact HYA.out _ (bstep (And.left (by assumption)) hb3) | exact HYA.out _ (bstep (And.left (by assumption)) hb4))
      (first | (go_at_call 28; refine (toInt8S_c A0 c0 L0 _ (HQ0.out _ (And.left (by assumption))) HN0.out).mono ?_; rintro _ w1_ ⟨v0, rfl, hb1, hv0⟩; obtain ⟨X0, d0, rfl, ld0, CX0⟩ := hv0.open; clear hv0) | (go_at_call_of 32 (Value.agg #[.int .i16 b1.c, .int .u8 b1.m0, .int .u8 b1.m1, .int .u8 b1.m2, .int .i16 b1.v, .int .i16 b1.wd, .int .i16 b1.h, .int .i16 b1.wt]); refine (toBook_c b1 _).mono ?_; rintro _ w2_ ⟨rfl, hb2⟩) | (go_at_call_of 32 (Value.agg #[.int .i16 b2.c, .int .u8 b2.m0, .int .u8 b2.m1, .int .u8 b2.m2, .int .i16 b2.v, .int .i16 b2.wd, .int .i16 b2.h, .int .i16 b2.wt]); refine (toBook_c b2 _).mono ?_; rintro _ w3_ ⟨rfl, hb3⟩) | (go_at_call 49; refine (specCompareBy_c X0 d0 L0 b1 b2 HO1.out HO2.out _ (Kd.C_below (Kd.C_below CX0.out hb2) hb3) HO0.out).mono ?_; rintro _ w4_ ⟨rfl, hb4⟩))
    have HB4 := Aside0.mk (show Below W0_.heap.size W0_ w4_ from And.left (by assumption))
    clear hb1 hb2 hb3 hb4
    obtain ⟨y10, y11, y12, y13, y14, y15, y16, y17⟩ := HY1.out _ HB4.out
    obtain ⟨y20, y21, y22, y23, y24, y25, y26, y27⟩ := HY2.out _ HB4.out
    go_wp2_with fail
    refine (toInt8S_c A0 c0 L0 _ (Kd.C_below HL0.out (HW.out.trans (HB4.out.mono (HW.out.size)))) HN0.out).mono ?_; rintro _ w5_ ⟨v1, rfl, hb5, hv1⟩
    have HB5 := Aside0.mk (bstep HB4.out hb5)
    clear hb5
    obtain ⟨X1, d1, rfl, ld1, CX1⟩ := hv1.open
    clear hv1
    obtain ⟨y10, y11, y12, y13, y14, y15, y16, y17⟩ := HY1.out _ HB5.out
    obtain ⟨y20, y21, y22, y23, y24, y25, y26, y27⟩ := HY2.out _ HB5.out
    go_wp2_with fail
    go_region_held3 (fun w' => Below W0_.heap.size W0_ w' ∧ (w'.cell? ⟨w.heap.size, 0, none⟩ = some (.int .i16 b1.c) ∧ w'.cell? ⟨w.heap.size, 1, none⟩ = some (.int .u8 b1.m0) ∧ w'.cell? ⟨w.heap.size, 2, none⟩ = some (.int .u8 b1.m1) ∧ w'.cell? ⟨w.heap.size, 3, none⟩ = some (.int .u8 b1.m2) ∧ w'.cell? ⟨w.heap.size, 4, none⟩ = some (.int .i16 b1.v) ∧ w'.cell? ⟨w.heap.size, 5, none⟩ = some (.int .i16 b1.wd) ∧ w'.cell? ⟨w.heap.size, 6, none⟩ = some (.int .i16 b1.h) ∧ w'.cell? ⟨w.heap.size, 7, none⟩ = some (.int .i16 b1.wt)) ∧ (w'.cell? ⟨w.heap.size + 1, 0, none⟩ = some (.int .i16 b2.c) ∧ w'.cell? ⟨w.heap.size + 1, 1, none⟩ = some (.int .u8 b2.m0) ∧ w'.cell? ⟨w.heap.size + 1, 2, none⟩ = some (.int .u8 b2.m1) ∧ w'.cell? ⟨w.heap.size + 1, 3, none⟩ = some (.int .u8 b2.m2) ∧ w'.cell? ⟨w.heap.size + 1, 4, none⟩ = some (.int .i16 b2.v) ∧ w'.cell? ⟨w.heap.size + 1, 5, none⟩ = some (.int .i16 b2.wd) ∧ w'.cell? ⟨w.heap.size + 1, 6, none⟩ = some (.int .i16 b2.h) ∧ w'.cell? ⟨w.heap.size + 1, 7, none⟩ = some (.int .i16 b2.wt)))
      (first | exact HYA.out _ (bdrew HB5.out) | exact HYA.out _ (bstep (And.left (by assumption)) hb6) | exact HYA.out _ (bstep (And.left (by assumption)) hb7) | exact HYA.out _ (bstep (And.left (by assumption)) hb8))
      (first | (go_at_call_of 32 (Value.agg #[.int .i16 b1.c, .int .u8 b1.m0, .int .u8 b1.m1, .int .u8 b1.m2, .int .i16 b1.v, .int .i16 b1.wd, .int .i16 b1.h, .int .i16 b1.wt]); refine (toBook_c b1 _).mono ?_; rintro _ w6_ ⟨rfl, hb6⟩) | (go_at_call_of 32 (Value.agg #[.int .i16 b2.c, .int .u8 b2.m0, .int .u8 b2.m1, .int .u8 b2.m2, .int .i16 b2.v, .int .i16 b2.wd, .int .i16 b2.h, .int .i16 b2.wt]); refine (toBook_c b2 _).mono ?_; rintro _ w7_ ⟨rfl, hb7⟩) | (go_at_call 50; refine (CompareBy_c X1 d1 L0 b1 b2 _ (Kd.C_below (Kd.C_below (Kd.C_below CX1.out (Below.refl _ _).drew) hb6) hb7) HO0.out).mono ?_; rintro _ w8_ ⟨rfl, hb8⟩))
    have HB8 := Aside0.mk (show Below W0_.heap.size W0_ w8_ from And.left (by assumption))
    have CX1_8 := Aside0.mk (Kd.C_below (Kd.C_below (Kd.C_below (Kd.C_below CX1.out (Below.refl _ _).drew) hb6) hb7) hb8)
    clear hb6 hb7 hb8
    obtain ⟨y10, y11, y12, y13, y14, y15, y16, y17⟩ := HY1.out _ HB8.out
    obtain ⟨y20, y21, y22, y23, y24, y25, y26, y27⟩ := HY2.out _ HB8.out
    go_wp2_with fail
    refine (toInt8S_c A0 c0 L0 _ (Kd.C_below HL0.out (HW.out.trans (HB8.out.mono (HW.out.size)))) HN0.out).mono ?_; rintro _ w9_ ⟨v2, rfl, hb9, hv2⟩
    have HB9 := Aside0.mk (bstep HB8.out hb9)
    have CX1_9 := Aside0.mk (Kd.C_below CX1_8.out hb9)
    clear hb9
    obtain ⟨X2, d2, rfl, ld2, CX2⟩ := hv2.open
    clear hv2
    obtain ⟨y10, y11, y12, y13, y14, y15, y16, y17⟩ := HY1.out _ HB9.out
    obtain ⟨y20, y21, y22, y23, y24, y25, y26, y27⟩ := HY2.out _ HB9.out
    go_wp2_with fail
    refine (eqInt8S_c X1 X2 d1 d2 L0 L0 _ CX1_9.out CX2.out).mono ?_; rintro _ w10_ ⟨rfl, hb10⟩
    have HB10 := Aside0.mk (bstep HB9.out hb10)
    have CX1_10 := Aside0.mk (Kd.C_below CX1_9.out hb10)
    have CX2_10 := Aside0.mk (Kd.C_below CX2.out hb10)
    clear hb10
    obtain ⟨y10, y11, y12, y13, y14, y15, y16, y17⟩ := HY1.out _ HB10.out
    obtain ⟨y20, y21, y22, y23, y24, y25, y26, y27⟩ := HY2.out _ HB10.out
    go_wp2_with fail
    go_ret
    exact ⟨rfl, (HW.out.trans (HB10.out.mono (HW.out.size)))⟩
end Go.Proofs.Ytgdhopcbiekhhaa
