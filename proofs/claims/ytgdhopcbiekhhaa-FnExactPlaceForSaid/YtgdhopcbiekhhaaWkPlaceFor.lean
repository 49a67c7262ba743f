/- The law FnExactPlaceFor returns true of every input. -/
import Derived.Test.YtgdhopcbiekhhaaPlace
import Derived.Test.YtgdhopcbiekhhaaToS
import Derived.Test.YtgdhopcbiekhhaaEq
import Derived.Deep.RegionHeld3
namespace Go.Proofs.Ytgdhopcbiekhhaa
open Go.RowKit Go.Proofs.YtgdhopcbiekhhaaW.PrintWords Go.Proofs.YtgdhopcbiekhhaaW.PrintMore
set_option linter.unusedVariables false
set_option linter.unusedSimpArgs false
set_option maxRecDepth 100000

set_option maxHeartbeats 4000000 in
theorem FnExactPlaceFor_c {w : World} (A0 : Option Addr) (c0 : Nat) (L0 : List Bk) (hlc0 : L0.length ≤ c0) (hL0 : kBk.C w A0 L0.length L0) (hok0 : OkL L0) (b1 : Bk) (hok1 : b1.ok) :
    Calls Try.prog 19 #[.slice A0 L0.length c0, b1.val] w (Ret w (.bool true)) := by
  have hr0 := Kd.C_max hL0
  have HR0 := Aside0.mk hr0
  have HL0 := Aside0.mk hL0
  have HO0 := Aside0.mk hok0
  clear hL0 hok0 hr0
  have HO1 := Aside0.mk hok1
  clear hok1
  have HX1 := Aside0.mk (BkAt.box w b1 32)
  have HY1 := Aside0.mk (show ∀ W, Below ((w.alloc (.cells #[.int .i16 b1.c, .int .u8 b1.m0, .int .u8 b1.m1, .int .u8 b1.m2, .int .i16 b1.v, .int .i16 b1.wd, .int .i16 b1.h, .int .i16 b1.wt] 32))).heap.size (w.alloc (.cells #[.int .i16 b1.c, .int .u8 b1.m0, .int .u8 b1.m1, .int .u8 b1.m2, .int .i16 b1.v, .int .i16 b1.wd, .int .i16 b1.h, .int .i16 b1.wt] 32)) W → BkAt W ⟨(w).heap.size, 0, none⟩ b1 from fun W h => HX1.out.below h)
  have HB0 := Aside0.mk (Below.refl ((w.alloc (.cells #[.int .i16 b1.c, .int .u8 b1.m0, .int .u8 b1.m1, .int .u8 b1.m2, .int .i16 b1.v, .int .i16 b1.wd, .int .i16 b1.h, .int .i16 b1.wt] 32))).heap.size (w.alloc (.cells #[.int .i16 b1.c, .int .u8 b1.m0, .int .u8 b1.m1, .int .u8 b1.m2, .int .i16 b1.v, .int .i16 b1.wd, .int .i16 b1.h, .int .i16 b1.wt] 32)))
  have HW := Aside0.mk (show Below w.heap.size w (w.alloc (.cells #[.int .i16 b1.c, .int .u8 b1.m0, .int .u8 b1.m1, .int .u8 b1.m2, .int .i16 b1.v, .int .i16 b1.wd, .int .i16 b1.h, .int .i16 b1.wt] 32)) from balloc (Below.refl _ _) _)
  have hzs : w.heap.size + 1 ≤ ((w.alloc (.cells #[.int .i16 b1.c, .int .u8 b1.m0, .int .u8 b1.m1, .int .u8 b1.m2, .int .i16 b1.v, .int .i16 b1.wd, .int .i16 b1.h, .int .i16 b1.wt] 32))).heap.size := by simp only [World.size_alloc]; omega
  clear hzs
  simp only [Bk.val]
  by_cases hlt0 : (1048576 : Int) < (L0.length : Int)
  · have HS0 := Aside0.mk (szBookS_lt A0 c0 _ _ (w.alloc (.cells #[.int .i16 b1.c, .int .u8 b1.m0, .int .u8 b1.m1, .int .u8 b1.m2, .int .i16 b1.v, .int .i16 b1.wd, .int .i16 b1.h, .int .i16 b1.wt] 32)) HR0.out (by omega) (by omega) hlt0)
    go_enter Try.func19, Try.ntmps19
    go_wp2_with fail
    refine HS0.out.mono ?_; rintro _ w0_ ⟨rfl, rfl⟩
    go_wp2_with fail
    go_ret
    exact ⟨rfl, balloc (Below.refl _ _) _⟩
  · have HS0 := Aside0.mk (szBookS_ge A0 c0 _ _ (w.alloc (.cells #[.int .i16 b1.c, .int .u8 b1.m0, .int .u8 b1.m1, .int .u8 b1.m2, .int .i16 b1.v, .int .i16 b1.wd, .int .i16 b1.h, .int .i16 b1.wt] 32)) HR0.out (by omega) (by omega) hlt0)
    have hle0 : (L0.length : Int) ≤ (1048576 : Int) := by omega
    clear hlt0
    have HN0 := Aside0.mk (show L0.length ≤ 2097152 by omega)
    go_enter Try.func19, Try.ntmps19
    go_wp2_with fail
    refine HS0.out.mono ?_; rintro _ w0_ ⟨rfl, rfl⟩
    go_wp2_with fail
    generalize HW0E : World.alloc w _ = W0_ at HW HB0 HY1 ⊢
    clear HW0E
    have HYA := Aside0.mk (show ∀ w', Below W0_.heap.size W0_ w' → Below W0_.heap.size W0_ w' ∧ (w'.cell? ⟨w.heap.size, 0, none⟩ = some (.int .i16 b1.c) ∧ w'.cell? ⟨w.heap.size, 1, none⟩ = some (.int .u8 b1.m0) ∧ w'.cell? ⟨w.heap.size, 2, none⟩ = some (.int .u8 b1.m1) ∧ w'.cell? ⟨w.heap.size, 3, none⟩ = some (.int .u8 b1.m2) ∧ w'.cell? ⟨w.heap.size, 4, none⟩ = some (.int .i16 b1.v) ∧ w'.cell? ⟨w.heap.size, 5, none⟩ = some (.int .i16 b1.wd) ∧ w'.cell? ⟨w.heap.size, 6, none⟩ = some (.int .i16 b1.h) ∧ w'.cell? ⟨w.heap.size, 7, none⟩ = some (.int .i16 b1.wt)) from fun w' h => ⟨h, by obtain ⟨a0, a1, a2, a3, a4, a5, a6, a7⟩ := HY1.out _ h; exact ⟨a0, a1, a2, a3, a4, a5, a6, a7⟩⟩)
    have HQ0 := Aside0.mk (show ∀ w', Below W0_.heap.size W0_ w' → kBk.C w' A0 L0.length L0 from fun w' h => Kd.C_below HL0.out (HW.out.trans (h.mono HW.out.size)))
    go_region_held3 (fun w' => Below W0_.heap.size W0_ w' ∧ (w'.cell? ⟨w.heap.size, 0, none⟩ = some (.int .i16 b1.c) ∧ w'.cell? ⟨w.heap.size, 1, none⟩ = some (.int .u8 b1.m0) ∧ w'.cell? ⟨w.heap.size, 2, none⟩ = some (.int .u8 b1.m1) ∧ w'.cell? ⟨w.heap.size, 3, none⟩ = some (.int .u8 b1.m2) ∧ w'.cell? ⟨w.heap.size, 4, none⟩ = some (.int .i16 b1.v) ∧ w'.cell? ⟨w.heap.size, 5, none⟩ = some (.int .i16 b1.wd) ∧ w'.cell? ⟨w.heap.size, 6, none⟩ = some (.int .i16 b1.h) ∧ w'.cell? ⟨w.heap.size, 7, none⟩ = some (.int .i16 b1.wt)))
      (first | exact HYA.out _ (bdrew HB0.out) | exact HYA.out _ (bstep (And.left (by assumption)) hb1) | exact HYA.out _ (bstep (And.left (by assumption)) hb2) | exact HYA.out _ (bstep (And.left (by assumption)) hb3))
      (first | (go_at_call 36; refine (toBookS_c A0 c0 L0 _ (HQ0.out _ (And.left (by assumption))) HN0.out).mono ?_; rintro _ w1_ ⟨v0, rfl, hb1, hv0⟩; obtain ⟨X0, d0, rfl, ld0, CX0⟩ := hv0.open; clear hv0) | (go_at_call_of 32 (Value.agg #[.int .i16 b1.c, .int .u8 b1.m0, .int .u8 b1.m1, .int .u8 b1.m2, .int .i16 b1.v, .int .i16 b1.wd, .int .i16 b1.h, .int .i16 b1.wt]); refine (toBook_c b1 _).mono ?_; rintro _ w2_ ⟨rfl, hb2⟩) | (go_at_call 69; refine (specPlaceFor_c X0 d0 L0 b1 HO0.out HO1.out _ (Kd.C_below CX0.out hb2)).mono ?_; rintro _ w3_ ⟨rfl, hb3⟩))
    have HB3 := Aside0.mk (show Below W0_.heap.size W0_ w3_ from And.left (by assumption))
    clear hb1 hb2 hb3
    obtain ⟨y10, y11, y12, y13, y14, y15, y16, y17⟩ := HY1.out _ HB3.out
    go_wp2_with fail
    refine (toBookS_c A0 c0 L0 _ (Kd.C_below HL0.out (HW.out.trans (HB3.out.mono (HW.out.size)))) HN0.out).mono ?_; rintro _ w4_ ⟨v1, rfl, hb4, hv1⟩
    have HB4 := Aside0.mk (bstep HB3.out hb4)
    clear hb4
    obtain ⟨X1, d1, rfl, ld1, CX1⟩ := hv1.open
    clear hv1
    obtain ⟨y10, y11, y12, y13, y14, y15, y16, y17⟩ := HY1.out _ HB4.out
    go_wp2_with fail
    refine (toBook_c b1 _).mono ?_; rintro _ w5_ ⟨rfl, hb5⟩
    have HB5 := Aside0.mk (bstep HB4.out hb5)
    have CX1_5 := Aside0.mk (Kd.C_below CX1.out hb5)
    clear hb5
    obtain ⟨y10, y11, y12, y13, y14, y15, y16, y17⟩ := HY1.out _ HB5.out
    go_wp2_with fail
    refine (PlaceFor_c X1 d1 L0 b1 _ CX1_5.out).mono ?_; rintro _ w6_ ⟨rfl, hb6⟩
    have HB6 := Aside0.mk (bstep HB5.out hb6)
    have CX1_6 := Aside0.mk (Kd.C_below CX1_5.out hb6)
    clear hb6
    obtain ⟨y10, y11, y12, y13, y14, y15, y16, y17⟩ := HY1.out _ HB6.out
    go_wp2_with fail
    refine (toBookS_c A0 c0 L0 _ (Kd.C_below HL0.out (HW.out.trans (HB6.out.mono (HW.out.size)))) HN0.out).mono ?_; rintro _ w7_ ⟨v2, rfl, hb7, hv2⟩
    have HB7 := Aside0.mk (bstep HB6.out hb7)
    have CX1_7 := Aside0.mk (Kd.C_below CX1_6.out hb7)
    clear hb7
    obtain ⟨X2, d2, rfl, ld2, CX2⟩ := hv2.open
    clear hv2
    obtain ⟨y10, y11, y12, y13, y14, y15, y16, y17⟩ := HY1.out _ HB7.out
    go_wp2_with fail
    refine (eqBookS_c X1 X2 d1 d2 L0 L0 _ CX1_7.out CX2.out).mono ?_; rintro _ w8_ ⟨rfl, hb8⟩
    have HB8 := Aside0.mk (bstep HB7.out hb8)
    have CX1_8 := Aside0.mk (Kd.C_below CX1_7.out hb8)
    have CX2_8 := Aside0.mk (Kd.C_below CX2.out hb8)
    clear hb8
    obtain ⟨y10, y11, y12, y13, y14, y15, y16, y17⟩ := HY1.out _ HB8.out
    go_wp2_with fail
    go_ret
    exact ⟨rfl, (HW.out.trans (HB8.out.mono (HW.out.size)))⟩
end Go.Proofs.Ytgdhopcbiekhhaa
