/- The law FnExactCountByHundreds returns true of every input. -/
import Derived.Test.YtgdhopcbiekhhaaCnt
import Derived.Test.YtgdhopcbiekhhaaToS
import Derived.Test.YtgdhopcbiekhhaaEq
namespace Go.Proofs.Ytgdhopcbiekhhaa
open Go.RowKit Go.Proofs.YtgdhopcbiekhhaaW.PrintWords Go.Proofs.YtgdhopcbiekhhaaW.PrintMore
set_option linter.unusedVariables false
set_option linter.unusedSimpArgs false
set_option maxRecDepth 100000

set_option maxHeartbeats 4000000 in
theorem FnExactCountByHundreds_c {w : World} (A0 : Option Addr) (c0 : Nat) (L0 : List Bk) (hlc0 : L0.length ≤ c0) (hL0 : kBk.C w A0 L0.length L0) (hok0 : OkL L0) :
    Calls Try.prog 10 #[.slice A0 L0.length c0] w (Ret w (.bool true)) := by
  have hr0 := Kd.C_max hL0
  have HR0 := Aside0.mk hr0
  have HL0 := Aside0.mk hL0
  have HO0 := Aside0.mk hok0
  clear hL0 hok0 hr0
  have HB0 := Aside0.mk (Below.refl (w).heap.size w)
  by_cases hlt0 : (1048576 : Int) < (L0.length : Int)
  · have HS0 := Aside0.mk (szBookS_lt A0 c0 _ _ w HR0.out (by omega) (by omega) hlt0)
    go_enter Try.func10, Try.ntmps10
    go_wp2_with fail
    refine HS0.out.mono ?_; rintro _ w0_ ⟨rfl, rfl⟩
    go_wp2_with fail
    go_ret
    exact ⟨rfl, Below.refl _ _⟩
  · have HS0 := Aside0.mk (szBookS_ge A0 c0 _ _ w HR0.out (by omega) (by omega) hlt0)
    have hle0 : (L0.length : Int) ≤ (1048576 : Int) := by omega
    clear hlt0
    have HN0 := Aside0.mk (show L0.length ≤ 2097152 by omega)
    obtain ⟨y0, y1, y2, y3, y4, y5, y6, y7, y8, y9, ht⟩ := ten (show (cntV L0).length = 10 by unfold cntV; split; exact cntL_len L0; rfl)
    have HSP := Aside0.mk (fun X d W h => specCountByHundreds_c X d L0 HO0.out W h)
    have HIM := Aside0.mk (fun X d W h => CountByHundreds_c X d L0 W h)
    rw [ht] at HSP HIM
    simp only [arr, List.map_cons, List.map_nil] at HSP HIM
    clear ht
    go_enter Try.func10, Try.ntmps10
    go_wp2_with fail
    refine HS0.out.mono ?_; rintro _ w0_ ⟨rfl, rfl⟩
    go_wp2_with fail
    refine (toBookS_c A0 c0 L0 _ (Kd.C_below HL0.out HB0.out) HN0.out).mono ?_; rintro _ w1_ ⟨v0, rfl, hb1, hv0⟩
    have HB1 := Aside0.mk (bstep HB0.out hb1)
    clear hb1
    obtain ⟨X0, d0, rfl, ld0, CX0⟩ := hv0.open
    clear hv0
    go_wp2_with fail
    refine (HSP.out X0 d0 _ CX0.out).mono ?_; rintro _ w2_ ⟨rfl, hb2⟩
    have HB2 := Aside0.mk (balloc (bstep HB1.out hb2) (.cells #[.int .i64 y0, .int .i64 y1, .int .i64 y2, .int .i64 y3, .int .i64 y4, .int .i64 y5, .int .i64 y6, .int .i64 y7, .int .i64 y8, .int .i64 y9] 47))
    have HW := Aside0.mk (blk_new w2_ (.cells #[.int .i64 y0, .int .i64 y1, .int .i64 y2, .int .i64 y3, .int .i64 y4, .int .i64 y5, .int .i64 y6, .int .i64 y7, .int .i64 y8, .int .i64 y9] 47))
    clear hb2
    go_wp2_with fail
    generalize hW2 : World.alloc w2_ _ = w2a at HB2 HW ⊢
    clear hW2
    refine (toBookS_c A0 c0 L0 _ (Kd.C_below HL0.out HB2.out) HN0.out).mono ?_; rintro _ w3_ ⟨v1, rfl, hb3, hv1⟩
    have HB3 := Aside0.mk (bstep HB2.out hb3)
    have HW3 := Aside0.mk (blk_below HW.out hb3)
    clear hb3
    obtain ⟨X1, d1, rfl, ld1, CX1⟩ := hv1.open
    clear hv1
    go_wp2_with fail
    refine (HIM.out X1 d1 _ CX1.out).mono ?_; rintro _ w4_ ⟨rfl, hb4⟩
    have HB4 := Aside0.mk (balloc (bstep HB3.out hb4) (.cells #[.int .i64 y0, .int .i64 y1, .int .i64 y2, .int .i64 y3, .int .i64 y4, .int .i64 y5, .int .i64 y6, .int .i64 y7, .int .i64 y8, .int .i64 y9] 47))
    have CX1_4 := Aside0.mk (Kd.C_alloc (Kd.C_below CX1.out hb4) (.cells #[.int .i64 y0, .int .i64 y1, .int .i64 y2, .int .i64 y3, .int .i64 y4, .int .i64 y5, .int .i64 y6, .int .i64 y7, .int .i64 y8, .int .i64 y9] 47))
    have HW4 := Aside0.mk (blk_alloc (blk_below HW3.out hb4) (.cells #[.int .i64 y0, .int .i64 y1, .int .i64 y2, .int .i64 y3, .int .i64 y4, .int .i64 y5, .int .i64 y6, .int .i64 y7, .int .i64 y8, .int .i64 y9] 47))
    have HG4 := Aside0.mk (blk_new w4_ (.cells #[.int .i64 y0, .int .i64 y1, .int .i64 y2, .int .i64 y3, .int .i64 y4, .int .i64 y5, .int .i64 y6, .int .i64 y7, .int .i64 y8, .int .i64 y9] 47))
    have k0 := blk_cell HW4.out 0
    have k1 := blk_cell HW4.out 1
    have k2 := blk_cell HW4.out 2
    have k3 := blk_cell HW4.out 3
    have k4 := blk_cell HW4.out 4
    have k5 := blk_cell HW4.out 5
    have k6 := blk_cell HW4.out 6
    have k7 := blk_cell HW4.out 7
    have k8 := blk_cell HW4.out 8
    have k9 := blk_cell HW4.out 9
    simp only [List.getElem?_toArray, List.getElem?_cons_zero, List.getElem?_cons_succ] at k0 k1 k2 k3 k4 k5 k6 k7 k8 k9
    clear hb4
    go_wp2_with fail
    clear k0 k1 k2 k3 k4 k5 k6 k7 k8 k9
    generalize hW4 : World.alloc w4_ _ = w4a at HB4 CX1_4 HW4 HG4 ⊢
    clear hW4
    refine (eqA10_c y0 y1 y2 y3 y4 y5 y6 y7 y8 y9 _).mono ?_; rintro _ w5_ ⟨rfl, hb5⟩
    have HB5 := Aside0.mk (bstep HB4.out hb5)
    have CX1_5 := Aside0.mk (Kd.C_below CX1_4.out hb5)
    clear hb5 HW4 HG4
    go_wp2_with fail
    refine (toBookS_c A0 c0 L0 _ (Kd.C_below HL0.out HB5.out) HN0.out).mono ?_; rintro _ w6_ ⟨v2, rfl, hb6, hv2⟩
    have HB6 := Aside0.mk (bstep HB5.out hb6)
    have CX1_6 := Aside0.mk (Kd.C_below CX1_5.out hb6)
    clear hb6
    obtain ⟨X2, d2, rfl, ld2, CX2⟩ := hv2.open
    clear hv2
    go_wp2_with fail
    refine (eqBookS_c X1 X2 d1 d2 L0 L0 _ CX1_6.out CX2.out).mono ?_; rintro _ w7_ ⟨rfl, hb7⟩
    have HB7 := Aside0.mk (bstep HB6.out hb7)
    clear hb7
    go_wp2_with fail
    go_ret
    exact ⟨rfl, HB7.out⟩
end Go.Proofs.Ytgdhopcbiekhhaa
