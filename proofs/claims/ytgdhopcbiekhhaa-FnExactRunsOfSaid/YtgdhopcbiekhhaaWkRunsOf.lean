/- The law FnExactRunsOf returns true of every input. -/
import Derived.Test.YtgdhopcbiekhhaaRunsV
import Derived.Test.YtgdhopcbiekhhaaMarkB
import Derived.Test.YtgdhopcbiekhhaaToS
import Derived.Test.YtgdhopcbiekhhaaEq
namespace Go.Proofs.Ytgdhopcbiekhhaa
open Go.RowKit Go.Proofs.YtgdhopcbiekhhaaW.PrintWords Go.Proofs.YtgdhopcbiekhhaaW.PrintMore
set_option linter.unusedVariables false
set_option linter.unusedSimpArgs false
set_option maxRecDepth 100000

set_option maxHeartbeats 8000000 in
theorem FnExactRunsOf_c {w : World} (A0 : Option Addr) (c0 : Nat) (L0 : List Bk) (hlc0 : L0.length ≤ c0) (hL0 : kBk.C w A0 L0.length L0) (hok0 : OkL L0) :
    Calls Try.prog 22 #[.slice A0 L0.length c0] w (Ret w (.bool true)) := by
  have hr0 := Kd.C_max hL0
  have HR0 := Aside0.mk hr0
  have HL0 := Aside0.mk hL0
  have HO0 := Aside0.mk hok0
  clear hL0 hok0 hr0
  have HB0 := Aside0.mk (Below.refl w.heap.size w)
  by_cases hlt0 : (1048576 : Int) < (L0.length : Int)
  · have HS0 := Aside0.mk (szBookS_lt A0 c0 _ _ w HR0.out (by omega) (by omega) hlt0)
    go_enter Try.func22, Try.ntmps22
    go_wp2_with fail
    refine HS0.out.mono ?_; rintro _ w0_ ⟨rfl, rfl⟩
    go_wp2_with fail
    go_ret
    exact ⟨rfl, Below.refl _ _⟩
  · have HS0 := Aside0.mk (szBookS_ge A0 c0 _ _ w HR0.out (by omega) (by omega) hlt0)
    have hle0 : (L0.length : Int) ≤ (1048576 : Int) := by omega
    clear hlt0
    have HN0 := Aside0.mk (show L0.length ≤ 2097152 by omega)
    have HRL := Aside0.mk (show (runsV L0).length ≤ 2097152 from runsV_len L0)
    have HSP := Aside0.mk (fun (X0 : Option Addr) (d0 : Nat) (l0 : L0.length ≤ d0) (W : World) (h0 : kBk.C W X0 L0.length L0) => specRunsOf_c X0 d0 L0 HO0.out W h0)
    have HIM := Aside0.mk (fun (X0 : Option Addr) (d0 : Nat) (l0 : L0.length ≤ d0) (W : World) (h0 : kBk.C W X0 L0.length L0) => RunsOf_c X0 d0 L0 W h0)
    obtain ⟨R, hR⟩ : ∃ R, runsV L0 = R := ⟨_, rfl⟩
    rw [hR] at HSP HIM HRL
    clear hR
    obtain ⟨e0, he0⟩ : ∃ e, eV L0 = e := ⟨_, rfl⟩
    rw [he0] at HSP HIM
    clear he0
    have hRL := HRL.out
    go_enter Try.func22, Try.ntmps22
    go_wp2_with fail
    refine HS0.out.mono ?_; rintro _ w0_ ⟨rfl, rfl⟩
    go_wp2_with fail
    refine (toBookS_c A0 c0 L0 _ (Kd.C_below HL0.out HB0.out) HN0.out).mono ?_; rintro _ w1_ ⟨v, rfl, hb, hv⟩
    have HB1 := Aside0.mk (bstep HB0.out hb)
    have S0 := Aside0.mk (Own.mk' (w0 := w) kBk_E hv HB0.out.size)
    clear hb hv
    obtain ⟨XS0, dS0, rfl, ldS0⟩ := S0.out.open
    go_wp2_with fail
    refine (HSP.out XS0 dS0 ldS0 _ (S0.out.reads)).mono ?_; rintro _ w2_ ⟨v', rfl, hb, v, rfl, hv⟩
    have HB2 := Aside0.mk (bstep HB1.out hb)
    have S0_2 := Aside0.mk (Own.below S0.out hb)
    have V := Aside0.mk (Own.mk' (w0 := w) (kInt_E _) hv HB1.out.size)
    clear hb hv
    obtain ⟨XV, dV, rfl, ldV⟩ := V.out.open
    go_wp2_with fail
    refine (toBookS_c A0 c0 L0 _ (Kd.C_below HL0.out HB2.out) HN0.out).mono ?_; rintro _ w3_ ⟨v, rfl, hb, hv⟩
    have HB3 := Aside0.mk (bstep HB2.out hb)
    have V_3 := Aside0.mk (Own.below V.out hb)
    have X0 := Aside0.mk (Own.mk' (w0 := w) kBk_E hv HB2.out.size)
    have AP_V_X0 := Aside0.mk (Apart.new V.out hv)
    clear hb hv
    obtain ⟨XX0, dX0, rfl, ldX0⟩ := X0.out.open
    go_wp2_with fail
    refine (HIM.out XX0 dX0 ldX0 _ (X0.out.reads)).mono ?_; rintro _ w4_ ⟨v', rfl, hb, v, rfl, hv⟩
    have HB4 := Aside0.mk (bstep HB3.out hb)
    have V_4 := Aside0.mk (Own.below V_3.out hb)
    have X0_4 := Aside0.mk (Own.below X0.out hb)
    have G := Aside0.mk (Own.mk' (w0 := w) (kInt_E _) hv HB3.out.size)
    have AP_V_G := Aside0.mk (Apart.new V_3.out hv)
    have AP_X0_G := Aside0.mk (Apart.new X0.out hv)
    clear hb hv
    obtain ⟨XG, dG, rfl, ldG⟩ := G.out.open
    go_wp2_with fail
    refine (eqInt64S_c XG XV dG dV R R _ G.out.reads V_4.out.reads).mono ?_; rintro _ w5_ ⟨rfl, hb⟩
    have HB5 := Aside0.mk (bstep HB4.out hb)
    have V_5 := Aside0.mk (Own.below V_4.out hb)
    have X0_5 := Aside0.mk (Own.below X0_4.out hb)
    have G_5 := Aside0.mk (Own.below G.out hb)
    clear hb
    go_wp2_with fail
    refine (toBookS_c A0 c0 L0 _ (Kd.C_below HL0.out HB5.out) HN0.out).mono ?_; rintro _ w6_ ⟨v, rfl, hb, hv⟩
    have HB6 := Aside0.mk (bstep HB5.out hb)
    have V_6 := Aside0.mk (Own.below V_5.out hb)
    have X0_6 := Aside0.mk (Own.below X0_5.out hb)
    have G_6 := Aside0.mk (Own.below G_5.out hb)
    have T0 := Aside0.mk (Own.mk' (w0 := w) kBk_E hv HB5.out.size)
    clear hb hv
    obtain ⟨XT0, dT0, rfl, ldT0⟩ := T0.out.open
    go_wp2_with fail
    refine (eqBookS_c XX0 XT0 dX0 dT0 L0 L0 _ X0_6.out.reads T0.out.reads).mono ?_; rintro _ w7_ ⟨rfl, hb⟩
    have HB7 := Aside0.mk (bstep HB6.out hb)
    have V_7 := Aside0.mk (Own.below V_6.out hb)
    have X0_7 := Aside0.mk (Own.below X0_6.out hb)
    have G_7 := Aside0.mk (Own.below G_6.out hb)
    have T0_7 := Aside0.mk (Own.below T0.out hb)
    clear hb
    go_wp2_with fail
    refine (markBookS_c XX0 dX0 L0 1 w _ X0_7.out (by omega) (by omega) (by first | exact hRL | omega)).mono ?_; rintro _ w8_ ⟨rfl, ho, hg⟩
    have HB8 := Aside0.mk (Own.mark X0_7.out HB7.out hg)
    have V_8 := Aside0.mk (Own.grown V_7.out hg AP_V_X0.out)
    have G_8 := Aside0.mk (Own.grown G_7.out hg AP_X0_G.out.symm)
    have X0_8 := Aside0.mk ho
    clear ho hg
    go_wp2_with fail
    refine (eqInt64S_c XG XV dG dV R R _ G_8.out.reads V_8.out.reads).mono ?_; rintro _ w9_ ⟨rfl, hb⟩
    have HB9 := Aside0.mk (bstep HB8.out hb)
    have V_9 := Aside0.mk (Own.below V_8.out hb)
    have G_9 := Aside0.mk (Own.below G_8.out hb)
    clear hb
    go_wp2_with fail
    refine (markInt64S_c XG dG R 1 w _ G_9.out (by omega) (by omega) (by first | exact hRL | omega)).mono ?_; rintro _ w10_ ⟨rfl, ho, hg⟩
    have HB10 := Aside0.mk (Own.mark G_9.out HB9.out hg)
    have V_10 := Aside0.mk (Own.grown V_9.out hg AP_V_G.out)
    have G_10 := Aside0.mk ho
    clear ho hg
    go_wp2_with fail
    refine (heldInt64S_c XG dG R.length 1 _ (heldCI G_10.out) (by omega) (by omega) hRL).mono ?_; rintro _ w11_ ⟨rfl, rfl⟩
    go_wp2_with fail
    refine (toBookS_c A0 c0 L0 _ (Kd.C_below HL0.out HB10.out) HN0.out).mono ?_; rintro _ w11_ ⟨v, rfl, hb, hv⟩
    have HB11 := Aside0.mk (bstep HB10.out hb)
    have V_11 := Aside0.mk (Own.below V_10.out hb)
    have G_11 := Aside0.mk (Own.below G_10.out hb)
    have U0 := Aside0.mk (Own.mk' (w0 := w) kBk_E hv HB10.out.size)
    clear hb hv
    obtain ⟨XU0, dU0, rfl, ldU0⟩ := U0.out.open
    go_wp2_with fail
    refine (HIM.out XU0 dU0 ldU0 _ (U0.out.reads)).mono ?_; rintro _ w12_ ⟨v', rfl, hb, v, rfl, hv⟩
    have HB12 := Aside0.mk (bstep HB11.out hb)
    have V_12 := Aside0.mk (Own.below V_11.out hb)
    have G_12 := Aside0.mk (Own.below G_11.out hb)
    have U0_12 := Aside0.mk (Own.below U0.out hb)
    have H := Aside0.mk (Own.mk' (w0 := w) (kInt_E _) hv HB11.out.size)
    clear hb hv
    obtain ⟨XH, dH, rfl, ldH⟩ := H.out.open
    go_wp2_with fail
    refine (eqInt64S_c XH XV dH dV R R _ H.out.reads V_12.out.reads).mono ?_; rintro _ w13_ ⟨rfl, hb⟩
    have HB13 := Aside0.mk (bstep HB12.out hb)
    have V_13 := Aside0.mk (Own.below V_12.out hb)
    have G_13 := Aside0.mk (Own.below G_12.out hb)
    have H_13 := Aside0.mk (Own.below H.out hb)
    clear hb
    go_wp2_with fail
    refine (heldInt64S_c XG dG R.length 1 _ (heldCI G_13.out) (by omega) (by omega) hRL).mono ?_; rintro _ w14_ ⟨rfl, rfl⟩
    go_wp2_with fail
    go_ret
    exact ⟨rfl, HB13.out⟩
end Go.Proofs.Ytgdhopcbiekhhaa
