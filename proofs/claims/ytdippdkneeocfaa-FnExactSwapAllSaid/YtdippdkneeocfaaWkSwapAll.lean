/- The law FnExactSwapAll returns true of every input. -/
import Derived.Test.YtdippdkneeocfaaSwapS
import Derived.Test.YtdippdkneeocfaaMarkB
import Derived.Test.YtdippdkneeocfaaToS
import Derived.Test.YtdippdkneeocfaaEq
namespace Go.Proofs.Ytdippdkneeocfaa
open Go.RowKit Go.Proofs.YtdippdkneeocfaaW.PrintWords Go.Proofs.YtdippdkneeocfaaW.PrintMore
set_option linter.unusedVariables false
set_option linter.unusedSimpArgs false
set_option maxRecDepth 100000

set_option maxHeartbeats 8000000 in
theorem FnExactSwapAll_c {w : World} (A0 : Option Addr) (c0 : Nat) (L0 : List Bk) (hlc0 : L0.length ≤ c0) (hL0 : kBk.C w A0 L0.length L0) (hok0 : OkL L0) (A1 : Option Addr) (c1 : Nat) (L1 : List Mv) (hlc1 : L1.length ≤ c1) (hL1 : kMv.C w A1 L1.length L1) (hok1 : OkM L1) :
    Calls Try.prog 5 #[.slice A0 L0.length c0, .slice A1 L1.length c1] w (Ret w (.bool true)) := by
  have hr0 := Kd.C_max hL0
  have HR0 := Aside0.mk hr0
  have HL0 := Aside0.mk hL0
  have HO0 := Aside0.mk hok0
  clear hL0 hok0 hr0
  have hr1 := Kd.C_max hL1
  have HR1 := Aside0.mk hr1
  have HL1 := Aside0.mk hL1
  have HO1 := Aside0.mk hok1
  clear hL1 hok1 hr1
  have HB0 := Aside0.mk (Below.refl w.heap.size w)
  by_cases hlt0 : (1048576 : Int) < (L0.length : Int)
  · have HS0 := Aside0.mk (szBookS_lt A0 c0 _ _ w HR0.out (by omega) (by omega) hlt0)
    go_enter Try.func5, Try.ntmps5
    go_wp2_with fail
    refine HS0.out.mono ?_; rintro _ w0_ ⟨rfl, rfl⟩
    go_wp2_with fail
    go_ret
    exact ⟨rfl, Below.refl _ _⟩
  · have HS0 := Aside0.mk (szBookS_ge A0 c0 _ _ w HR0.out (by omega) (by omega) hlt0)
    have hle0 : (L0.length : Int) ≤ (1048576 : Int) := by omega
    clear hlt0
    by_cases hlt1 : ((1048576 : Int) - (L0.length : Int)) < (L1.length : Int)
    · have HS1 := Aside0.mk (szMoveS_lt A1 c1 _ _ w HR1.out (by omega) (by omega) hlt1)
      go_enter Try.func5, Try.ntmps5
      go_wp2_with fail
      refine HS0.out.mono ?_; rintro _ w0_ ⟨rfl, rfl⟩
      go_wp2_with fail
      refine HS1.out.mono ?_; rintro _ w0_ ⟨rfl, rfl⟩
      go_wp2_with fail
      go_ret
      exact ⟨rfl, Below.refl _ _⟩
    · have HS1 := Aside0.mk (szMoveS_ge A1 c1 _ _ w HR1.out (by omega) (by omega) hlt1)
      have hle1 : (L1.length : Int) ≤ ((1048576 : Int) - (L0.length : Int)) := by omega
      clear hlt1
      have HN0 := Aside0.mk (show L0.length ≤ 2097152 by omega)
      have HN1 := Aside0.mk (show L1.length ≤ 2097152 by omega)
      have HRL := Aside0.mk (show (saV L0 L1).length ≤ 2097152 from Nat.le_trans (saV_len L0 L1) HN0.out)
      have HSP := Aside0.mk (fun (X0 : Option Addr) (d0 : Nat) (l0 : L0.length ≤ d0) (X1 : Option Addr) (d1 : Nat) (l1 : L1.length ≤ d1) (W : World) (h0 : kBk.C W X0 L0.length L0) (h1 : kMv.C W X1 L1.length L1) => specSwapAll_c X0 X1 d0 d1 L0 L1 W HO0.out HO1.out h0 h1)
      have HIM := Aside0.mk (fun (X0 : Option Addr) (d0 : Nat) (l0 : L0.length ≤ d0) (X1 : Option Addr) (d1 : Nat) (l1 : L1.length ≤ d1) (W : World) (h0 : kBk.C W X0 L0.length L0) (h1 : kMv.C W X1 L1.length L1) => SwapAll_c X0 X1 d0 d1 L0 L1 W h0 h1)
      obtain ⟨R, hR⟩ : ∃ R, saV L0 L1 = R := ⟨_, rfl⟩
      rw [hR] at HSP HIM HRL
      clear hR
      obtain ⟨e0, he0⟩ : ∃ e, saE L0 L1 = e := ⟨_, rfl⟩
      rw [he0] at HSP HIM
      clear he0
      have hRL := HRL.out
      go_enter Try.func5, Try.ntmps5
      go_wp2_with fail
      refine HS0.out.mono ?_; rintro _ w0_ ⟨rfl, rfl⟩
      go_wp2_with fail
      refine HS1.out.mono ?_; rintro _ w0_ ⟨rfl, rfl⟩
      go_wp2_with fail
      refine (toBookS_c A0 c0 L0 _ (Kd.C_below HL0.out HB0.out) HN0.out).mono ?_; rintro _ w1_ ⟨v, rfl, hb, hv⟩
      have HB1 := Aside0.mk (bstep HB0.out hb)
      have S0 := Aside0.mk (Own.mk' (w0 := w) kBk_E hv HB0.out.size)
      clear hb hv
      obtain ⟨XS0, dS0, rfl, ldS0⟩ := S0.out.open
      go_wp2_with fail
      refine (toMoveS_c A1 c1 L1 _ (Kd.C_below HL1.out HB1.out) HN1.out).mono ?_; rintro _ w2_ ⟨v, rfl, hb, hv⟩
      have HB2 := Aside0.mk (bstep HB1.out hb)
      have S0_2 := Aside0.mk (Own.below S0.out hb)
      have S1 := Aside0.mk (Own.mk' (w0 := w) kMv_E hv HB1.out.size)
      clear hb hv
      obtain ⟨XS1, dS1, rfl, ldS1⟩ := S1.out.open
      go_wp2_with fail
      refine (HSP.out XS0 dS0 ldS0 XS1 dS1 ldS1 _ (S0_2.out.reads) (S1.out.reads)).mono ?_; rintro _ w3_ ⟨v', rfl, hb, v, rfl, hv⟩
      have HB3 := Aside0.mk (bstep HB2.out hb)
      have S0_3 := Aside0.mk (Own.below S0_2.out hb)
      have S1_3 := Aside0.mk (Own.below S1.out hb)
      have V := Aside0.mk (Own.mk' (w0 := w) kBk_E hv HB2.out.size)
      clear hb hv
      obtain ⟨XV, dV, rfl, ldV⟩ := V.out.open
      go_wp2_with fail
      refine (toBookS_c A0 c0 L0 _ (Kd.C_below HL0.out HB3.out) HN0.out).mono ?_; rintro _ w4_ ⟨v, rfl, hb, hv⟩
      have HB4 := Aside0.mk (bstep HB3.out hb)
      have V_4 := Aside0.mk (Own.below V.out hb)
      have X0 := Aside0.mk (Own.mk' (w0 := w) kBk_E hv HB3.out.size)
      have AP_V_X0 := Aside0.mk (Apart.new V.out hv)
      clear hb hv
      obtain ⟨XX0, dX0, rfl, ldX0⟩ := X0.out.open
      go_wp2_with fail
      refine (toMoveS_c A1 c1 L1 _ (Kd.C_below HL1.out HB4.out) HN1.out).mono ?_; rintro _ w5_ ⟨v, rfl, hb, hv⟩
      have HB5 := Aside0.mk (bstep HB4.out hb)
      have V_5 := Aside0.mk (Own.below V_4.out hb)
      have X0_5 := Aside0.mk (Own.below X0.out hb)
      have X1 := Aside0.mk (Own.mk' (w0 := w) kMv_E hv HB4.out.size)
      have AP_V_X1 := Aside0.mk (Apart.new V_4.out hv)
      have AP_X0_X1 := Aside0.mk (Apart.new X0.out hv)
      clear hb hv
      obtain ⟨XX1, dX1, rfl, ldX1⟩ := X1.out.open
      go_wp2_with fail
      refine (HIM.out XX0 dX0 ldX0 XX1 dX1 ldX1 _ (X0_5.out.reads) (X1.out.reads)).mono ?_; rintro _ w6_ ⟨v', rfl, hb, v, rfl, hv⟩
      have HB6 := Aside0.mk (bstep HB5.out hb)
      have V_6 := Aside0.mk (Own.below V_5.out hb)
      have X0_6 := Aside0.mk (Own.below X0_5.out hb)
      have X1_6 := Aside0.mk (Own.below X1.out hb)
      have G := Aside0.mk (Own.mk' (w0 := w) kBk_E hv HB5.out.size)
      have AP_V_G := Aside0.mk (Apart.new V_5.out hv)
      have AP_X0_G := Aside0.mk (Apart.new X0_5.out hv)
      have AP_X1_G := Aside0.mk (Apart.new X1.out hv)
      clear hb hv
      obtain ⟨XG, dG, rfl, ldG⟩ := G.out.open
      go_wp2_with fail
      refine (eqBookS_c XG XV dG dV R R _ G.out.reads V_6.out.reads).mono ?_; rintro _ w7_ ⟨rfl, hb⟩
      have HB7 := Aside0.mk (bstep HB6.out hb)
      have V_7 := Aside0.mk (Own.below V_6.out hb)
      have X0_7 := Aside0.mk (Own.below X0_6.out hb)
      have X1_7 := Aside0.mk (Own.below X1_6.out hb)
      have G_7 := Aside0.mk (Own.below G.out hb)
      clear hb
      go_wp2_with fail
      refine (toBookS_c A0 c0 L0 _ (Kd.C_below HL0.out HB7.out) HN0.out).mono ?_; rintro _ w8_ ⟨v, rfl, hb, hv⟩
      have HB8 := Aside0.mk (bstep HB7.out hb)
      have V_8 := Aside0.mk (Own.below V_7.out hb)
      have X0_8 := Aside0.mk (Own.below X0_7.out hb)
      have X1_8 := Aside0.mk (Own.below X1_7.out hb)
      have G_8 := Aside0.mk (Own.below G_7.out hb)
      have T0 := Aside0.mk (Own.mk' (w0 := w) kBk_E hv HB7.out.size)
      clear hb hv
      obtain ⟨XT0, dT0, rfl, ldT0⟩ := T0.out.open
      go_wp2_with fail
      refine (eqBookS_c XX0 XT0 dX0 dT0 L0 L0 _ X0_8.out.reads T0.out.reads).mono ?_; rintro _ w9_ ⟨rfl, hb⟩
      have HB9 := Aside0.mk (bstep HB8.out hb)
      have V_9 := Aside0.mk (Own.below V_8.out hb)
      have X0_9 := Aside0.mk (Own.below X0_8.out hb)
      have X1_9 := Aside0.mk (Own.below X1_8.out hb)
      have G_9 := Aside0.mk (Own.below G_8.out hb)
      have T0_9 := Aside0.mk (Own.below T0.out hb)
      clear hb
      go_wp2_with fail
      refine (toMoveS_c A1 c1 L1 _ (Kd.C_below HL1.out HB9.out) HN1.out).mono ?_; rintro _ w10_ ⟨v, rfl, hb, hv⟩
      have HB10 := Aside0.mk (bstep HB9.out hb)
      have V_10 := Aside0.mk (Own.below V_9.out hb)
      have X0_10 := Aside0.mk (Own.below X0_9.out hb)
      have X1_10 := Aside0.mk (Own.below X1_9.out hb)
      have G_10 := Aside0.mk (Own.below G_9.out hb)
      have T1 := Aside0.mk (Own.mk' (w0 := w) kMv_E hv HB9.out.size)
      clear hb hv
      obtain ⟨XT1, dT1, rfl, ldT1⟩ := T1.out.open
      go_wp2_with fail
      refine (eqMoveS_c XX1 XT1 dX1 dT1 L1 L1 _ X1_10.out.reads T1.out.reads).mono ?_; rintro _ w11_ ⟨rfl, hb⟩
      have HB11 := Aside0.mk (bstep HB10.out hb)
      have V_11 := Aside0.mk (Own.below V_10.out hb)
      have X0_11 := Aside0.mk (Own.below X0_10.out hb)
      have X1_11 := Aside0.mk (Own.below X1_10.out hb)
      have G_11 := Aside0.mk (Own.below G_10.out hb)
      have T1_11 := Aside0.mk (Own.below T1.out hb)
      clear hb
      go_wp2_with fail
      refine (markBookS_c XX0 dX0 L0 (1) w _ X0_11.out (by omega) (by omega) (by first | exact hRL | omega)).mono ?_; rintro _ w12_ ⟨rfl, ho, hg⟩
      have HB12 := Aside0.mk (Own.mark X0_11.out HB11.out hg)
      have V_12 := Aside0.mk (Own.grown V_11.out hg AP_V_X0.out)
      have X1_12 := Aside0.mk (Own.grown X1_11.out hg AP_X0_X1.out.symm)
      have G_12 := Aside0.mk (Own.grown G_11.out hg AP_X0_G.out.symm)
      have X0_12 := Aside0.mk ho
      clear ho hg
      go_wp2_with fail
      refine (markMoveS_c XX1 dX1 L1 (1 + 8 * (L0.length : Int)) w _ X1_12.out (by omega) (by omega) (by first | exact hRL | omega)).mono ?_; rintro _ w13_ ⟨rfl, ho, hg⟩
      have HB13 := Aside0.mk (Own.mark X1_12.out HB12.out hg)
      have V_13 := Aside0.mk (Own.grown V_12.out hg AP_V_X1.out)
      have G_13 := Aside0.mk (Own.grown G_12.out hg AP_X1_G.out.symm)
      have X1_13 := Aside0.mk ho
      clear ho hg
      go_wp2_with fail
      refine (eqBookS_c XG XV dG dV R R _ G_13.out.reads V_13.out.reads).mono ?_; rintro _ w14_ ⟨rfl, hb⟩
      have HB14 := Aside0.mk (bstep HB13.out hb)
      have V_14 := Aside0.mk (Own.below V_13.out hb)
      have G_14 := Aside0.mk (Own.below G_13.out hb)
      clear hb
      go_wp2_with fail
      refine (markBookS_c XG dG R (1) w _ G_14.out (by omega) (by omega) (by first | exact hRL | omega)).mono ?_; rintro _ w15_ ⟨rfl, ho, hg⟩
      have HB15 := Aside0.mk (Own.mark G_14.out HB14.out hg)
      have V_15 := Aside0.mk (Own.grown V_14.out hg AP_V_G.out)
      have G_15 := Aside0.mk ho
      clear ho hg
      go_wp2_with fail
      refine (heldBookS_c XG dG R.length 1 _ (heldCB G_15.out) (by omega) (by omega) hRL).mono ?_; rintro _ w16_ ⟨rfl, rfl⟩
      go_wp2_with fail
      refine (toBookS_c A0 c0 L0 _ (Kd.C_below HL0.out HB15.out) HN0.out).mono ?_; rintro _ w16_ ⟨v, rfl, hb, hv⟩
      have HB16 := Aside0.mk (bstep HB15.out hb)
      have V_16 := Aside0.mk (Own.below V_15.out hb)
      have G_16 := Aside0.mk (Own.below G_15.out hb)
      have U0 := Aside0.mk (Own.mk' (w0 := w) kBk_E hv HB15.out.size)
      clear hb hv
      obtain ⟨XU0, dU0, rfl, ldU0⟩ := U0.out.open
      go_wp2_with fail
      refine (toMoveS_c A1 c1 L1 _ (Kd.C_below HL1.out HB16.out) HN1.out).mono ?_; rintro _ w17_ ⟨v, rfl, hb, hv⟩
      have HB17 := Aside0.mk (bstep HB16.out hb)
      have V_17 := Aside0.mk (Own.below V_16.out hb)
      have G_17 := Aside0.mk (Own.below G_16.out hb)
      have U0_17 := Aside0.mk (Own.below U0.out hb)
      have U1 := Aside0.mk (Own.mk' (w0 := w) kMv_E hv HB16.out.size)
      clear hb hv
      obtain ⟨XU1, dU1, rfl, ldU1⟩ := U1.out.open
      go_wp2_with fail
      refine (HIM.out XU0 dU0 ldU0 XU1 dU1 ldU1 _ (U0_17.out.reads) (U1.out.reads)).mono ?_; rintro _ w18_ ⟨v', rfl, hb, v, rfl, hv⟩
      have HB18 := Aside0.mk (bstep HB17.out hb)
      have V_18 := Aside0.mk (Own.below V_17.out hb)
      have G_18 := Aside0.mk (Own.below G_17.out hb)
      have U0_18 := Aside0.mk (Own.below U0_17.out hb)
      have U1_18 := Aside0.mk (Own.below U1.out hb)
      have H := Aside0.mk (Own.mk' (w0 := w) kBk_E hv HB17.out.size)
      clear hb hv
      obtain ⟨XH, dH, rfl, ldH⟩ := H.out.open
      go_wp2_with fail
      refine (eqBookS_c XH XV dH dV R R _ H.out.reads V_18.out.reads).mono ?_; rintro _ w19_ ⟨rfl, hb⟩
      have HB19 := Aside0.mk (bstep HB18.out hb)
      have V_19 := Aside0.mk (Own.below V_18.out hb)
      have G_19 := Aside0.mk (Own.below G_18.out hb)
      have H_19 := Aside0.mk (Own.below H.out hb)
      clear hb
      go_wp2_with fail
      refine (heldBookS_c XG dG R.length 1 _ (heldCB G_19.out) (by omega) (by omega) hRL).mono ?_; rintro _ w20_ ⟨rfl, rfl⟩
      go_wp2_with fail
      go_ret
      exact ⟨rfl, HB19.out⟩
end Go.Proofs.Ytdippdkneeocfaa
