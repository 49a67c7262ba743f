/- The law FnExactLeastCost returns true of every input. -/
import Derived.Test.YtdippdkneeocfaaBestL
import Derived.Test.YtdippdkneeocfaaMarkB
import Derived.Test.YtdippdkneeocfaaToS
import Derived.Test.YtdippdkneeocfaaEq
import Derived.Deep.RegionHeld3
namespace Go.Proofs.Ytdippdkneeocfaa
open Go.RowKit Go.Proofs.YtdippdkneeocfaaW.PrintWords Go.Proofs.YtdippdkneeocfaaW.PrintMore
set_option linter.unusedVariables false
set_option linter.unusedSimpArgs false
set_option maxRecDepth 100000

set_option maxHeartbeats 8000000 in
theorem FnExactLeastCost_c {w : World} (k0 : Cs) (A0 : Option Addr) (c0 : Nat) (hlc0 : k0.hs.length ≤ c0) (hL0 : (Kd.int .i16).C w A0 k0.hs.length k0.hs) (hok0 : k0.ok) (A1 : Option Addr) (c1 : Nat) (L1 : List Bk) (hlc1 : L1.length ≤ c1) (hL1 : kBk.C w A1 L1.length L1) (hok1 : OkL L1) :
    Calls Try.prog 24 #[k0.val A0 c0, .slice A1 L1.length c1] w (Ret w (.bool true)) := by
  have hr0 := Kd.C_max hL0
  have HR0 := Aside0.mk hr0
  have HL0 := Aside0.mk hL0
  have HO0 := Aside0.mk hok0
  clear hL0 hok0 hr0
  have hr1 := Kd.C_max hL1
  have HR1 := Aside0.mk hr1
  have HL1 := Aside0.mk hL1
  have HO1 := Aside0.mk hok1
  clear hL1 hok1 hr1
  have HW := Aside0.mk (show Below w.heap.size w (w.alloc (.cells #[.int .i16 k0.wd, .int .i32 k0.ld, .slice A0 k0.hs.length c0] 48)) from (balloc (Below.refl _ _) _))
  have hy0 : CsAt (w.alloc (.cells #[.int .i16 k0.wd, .int .i32 k0.ld, .slice A0 k0.hs.length c0] 48)) ⟨w.heap.size, 0, none⟩ k0 A0 c0 := CsAt.box w k0 A0 c0 48
  try simp only [World.size_alloc] at hy0
  have HYC0 := Aside0.mk hy0
  clear hy0
  have HY0 := Aside0.mk (show ∀ W, Below ((w.alloc (.cells #[.int .i16 k0.wd, .int .i32 k0.ld, .slice A0 k0.hs.length c0] 48))).heap.size (w.alloc (.cells #[.int .i16 k0.wd, .int .i32 k0.ld, .slice A0 k0.hs.length c0] 48)) W → CsAt W ⟨w.heap.size, 0, none⟩ k0 A0 c0 from fun W h => HYC0.out.below h)
  have HB0 := Aside0.mk (Below.refl ((w.alloc (.cells #[.int .i16 k0.wd, .int .i32 k0.ld, .slice A0 k0.hs.length c0] 48))).heap.size (w.alloc (.cells #[.int .i16 k0.wd, .int .i32 k0.ld, .slice A0 k0.hs.length c0] 48)))
  by_cases hlt0 : (1048576 : Int) < (k0.hs.length : Int)
  · skip
    obtain ⟨y00, y01, y02⟩ := HYC0.out
    simp only [Cs.val]
    go_enter Try.func24, Try.ntmps24
    go_wp2_with fail
    clear HYC0
    generalize HW0E : World.alloc w _ = W0_ at HW HB0 HY0 y00 y01 y02 ⊢
    clear HW0E
    refine (szCase_lt k0 A0 c0 _ _ HR0.out (by omega) (by omega) (by omega)).mono ?_; rintro _ w1_ ⟨rfl, hb⟩
    have HB1 := Aside0.mk (bstep HB0.out hb)
    clear hb
    clear y00 y01 y02
    obtain ⟨y00, y01, y02⟩ := HY0.out _ HB1.out
    go_wp2_with fail
    go_ret
    exact ⟨rfl, HW.out.trans (HB1.out.mono HW.out.size)⟩
  · have hle0 : (k0.hs.length : Int) ≤ (1048576 : Int) := by omega
    by_cases hlt1 : ((1048576 : Int) - (k0.hs.length : Int)) < (L1.length : Int)
    · skip
      obtain ⟨y00, y01, y02⟩ := HYC0.out
      simp only [Cs.val]
      go_enter Try.func24, Try.ntmps24
      go_wp2_with fail
      clear HYC0
      generalize HW0E : World.alloc w _ = W0_ at HW HB0 HY0 y00 y01 y02 ⊢
      clear HW0E
      refine (szCase_ge k0 A0 c0 _ _ HR0.out (by omega) (by omega) (by omega)).mono ?_; rintro _ w1_ ⟨rfl, hb⟩
      have HB1 := Aside0.mk (bstep HB0.out hb)
      clear hb
      clear y00 y01 y02
      obtain ⟨y00, y01, y02⟩ := HY0.out _ HB1.out
      go_wp2_with fail
      refine (szBookS_lt A1 c1 _ _ _ HR1.out (by omega) (by omega) (by omega)).mono ?_; rintro _ w0_ ⟨rfl, rfl⟩
      go_wp2_with fail
      go_ret
      exact ⟨rfl, HW.out.trans (HB1.out.mono HW.out.size)⟩
    · have hle1 : (L1.length : Int) ≤ ((1048576 : Int) - (k0.hs.length : Int)) := by omega
      have HN0 := Aside0.mk (show k0.hs.length ≤ 2097152 by omega)
      have HN1 := Aside0.mk (show L1.length ≤ 2097152 by omega)
      have HSP := Aside0.mk (fun (X0 : Option Addr) (d0 : Nat) (l0 : k0.hs.length ≤ d0) (X1 : Option Addr) (d1 : Nat) (l1 : L1.length ≤ d1) (W : World) (h0 : (Kd.int .i16).C W X0 k0.hs.length k0.hs) (h1 : kBk.C W X1 L1.length L1) => specLeastCost_c k0 X0 d0 X1 d1 L1 HO0.out HO1.out l1 W h0 h1)
      have HIM := Aside0.mk (fun (X0 : Option Addr) (d0 : Nat) (l0 : k0.hs.length ≤ d0) (X1 : Option Addr) (d1 : Nat) (l1 : L1.length ≤ d1) (W : World) (h0 : (Kd.int .i16).C W X0 k0.hs.length k0.hs) (h1 : kBk.C W X1 L1.length L1) => LeastCost_c k0 X0 d0 X1 d1 L1 HO0.out HO1.out l1 W h0 h1)
      simp only [Cs.val] at HSP HIM
      have HRL := Aside0.mk (show (beV k0 (sqL k0) L1).length ≤ 2097152 from Nat.le_trans (beV_len k0 (sqL k0) L1) HN0.out)
      obtain ⟨R, hR⟩ : ∃ R, beV k0 (sqL k0) L1 = R := ⟨_, rfl⟩
      rw [hR] at HSP HIM HRL
      clear hR
      obtain ⟨e0, he0⟩ : ∃ e, beC k0 (sqL k0) L1 = e := ⟨_, rfl⟩
      rw [he0] at HSP HIM
      clear he0
      obtain ⟨e1, he1⟩ : ∃ e, beE k0 (sqL k0) L1 = e := ⟨_, rfl⟩
      rw [he1] at HSP HIM
      clear he1
      have hRL := HRL.out
      have hle0_ := HN0.out
      have hle1_ := HN1.out
      obtain ⟨y00, y01, y02⟩ := HYC0.out
      simp only [Cs.val]
      go_enter Try.func24, Try.ntmps24
      go_wp2_with fail
      clear HYC0
      generalize HW0E : World.alloc w _ = W0_ at HW HB0 HY0 y00 y01 y02 ⊢
      clear HW0E
      refine (szCase_ge k0 A0 c0 _ _ HR0.out (by omega) (by omega) (by omega)).mono ?_; rintro _ w1_ ⟨rfl, hb⟩
      have HB1 := Aside0.mk (bstep HB0.out hb)
      clear hb
      clear y00 y01 y02
      obtain ⟨y00, y01, y02⟩ := HY0.out _ HB1.out
      go_wp2_with fail
      refine (szBookS_ge A1 c1 _ _ _ HR1.out (by omega) (by omega) (by omega)).mono ?_; rintro _ w0_ ⟨rfl, rfl⟩
      go_wp2_with fail
      refine (toCase_c k0 A0 c0 _ (Kd.C_below HL0.out (HW.out.trans (HB1.out.mono HW.out.size))) HN0.out).mono ?_; rintro _ w2_ ⟨_, rfl, hb, XS0, dS0, rfl, hv⟩
      have HB2 := Aside0.mk (bstep HB1.out hb)
      clear y00 y01 y02
      obtain ⟨y00, y01, y02⟩ := HY0.out _ HB2.out
      have S0 := Aside0.mk (Own.mk' (w0 := W0_) (kInt_E _) hv HB1.out.size)
      clear hb hv
      have ldS0 := (Kd.R_reads' S0.out).2.1
      simp only [Cs.val]
      go_wp2_with fail
      refine (toBookS_c A1 c1 L1 _ (Kd.C_below HL1.out (HW.out.trans (HB2.out.mono HW.out.size))) HN1.out).mono ?_; rintro _ w3_ ⟨v, rfl, hb, hv⟩
      have HB3 := Aside0.mk (bstep HB2.out hb)
      have S0_3 := Aside0.mk (Own.below S0.out hb)
      clear y00 y01 y02
      obtain ⟨y00, y01, y02⟩ := HY0.out _ HB3.out
      have S1 := Aside0.mk (Own.mk' (w0 := W0_) kBk_E hv HB2.out.size)
      clear hb hv
      obtain ⟨XS1, dS1, rfl, ldS1⟩ := S1.out.open
      go_wp2_with fail
      refine (HSP.out XS0 dS0 ldS0 XS1 dS1 ldS1 _ (S0_3.out.reads) (S1.out.reads)).mono ?_; rintro _ w4_ ⟨v', rfl, hb, v, rfl, hv⟩
      have HB4 := Aside0.mk (bstep HB3.out hb)
      have S0_4 := Aside0.mk (Own.below S0_3.out hb)
      have S1_4 := Aside0.mk (Own.below S1.out hb)
      clear y00 y01 y02
      obtain ⟨y00, y01, y02⟩ := HY0.out _ HB4.out
      have V := Aside0.mk (Own.mk' (w0 := W0_) (kInt_E _) hv HB3.out.size)
      clear hb hv
      obtain ⟨XV, dV, rfl, ldV⟩ := V.out.open
      go_wp2_with fail
      refine (toCase_c k0 A0 c0 _ (Kd.C_below HL0.out (HW.out.trans (HB4.out.mono HW.out.size))) HN0.out).mono ?_; rintro _ w5_ ⟨_, rfl, hb, XX0, dX0, rfl, hv⟩
      have HB5 := Aside0.mk (bstep HB4.out hb)
      have V_5 := Aside0.mk (Own.below V.out hb)
      clear y00 y01 y02
      obtain ⟨y00, y01, y02⟩ := HY0.out _ HB5.out
      have X0 := Aside0.mk (Own.mk' (w0 := W0_) (kInt_E _) hv HB4.out.size)
      have AP_V_X0 := Aside0.mk (Apart.new V.out hv)
      clear hb hv
      have ldX0 := (Kd.R_reads' X0.out).2.1
      simp only [Cs.val]
      clear y00 y01 y02
      have HBA := Aside0.mk (show Below W0_.heap.size W0_ (World.alloc w5_ (.cells #[.int .i16 k0.wd, .int .i32 k0.ld, .slice XX0 k0.hs.length dX0] 51)) from balloc HB5.out _)
      obtain ⟨y00, y01, y02⟩ := HY0.out _ HBA.out
      go_wp2_with fail
      have hbx : CsAt (World.alloc w5_ (.cells #[.int .i16 k0.wd, .int .i32 k0.ld, .slice XX0 k0.hs.length dX0] 51)) ⟨w5_.heap.size, 0, none⟩ k0 XX0 dX0 := CsAt.box w5_ k0 XX0 dX0 51
      have hb : Below w5_.heap.size w5_ (World.alloc w5_ (.cells #[.int .i16 k0.wd, .int .i32 k0.ld, .slice XX0 k0.hs.length dX0] 51)) := balloc (Below.refl _ _) _
      clear y00 y01 y02
      clear HBA 
      obtain ⟨y00, y01, y02⟩ := HY0.out _ HB5.out
      generalize hWX : World.alloc w5_ _ = w6_ at hbx hb ⊢
      clear hWX
      have HB6 := Aside0.mk (bstep HB5.out hb)
      have V_6 := Aside0.mk (Own.below V_5.out hb)
      have X0_6 := Aside0.mk (Own.below X0.out hb)
      have HZ0_6 := Aside0.mk hbx
      clear hbx hb
      clear y00 y01 y02
      obtain ⟨y00, y01, y02⟩ := HY0.out _ HB6.out
      obtain ⟨z00, z01, z02⟩ := HZ0_6.out
      refine (toBookS_c A1 c1 L1 _ (Kd.C_below HL1.out (HW.out.trans (HB6.out.mono HW.out.size))) HN1.out).mono ?_; rintro _ w7_ ⟨v, rfl, hb, hv⟩
      have HB7 := Aside0.mk (bstep HB6.out hb)
      have V_7 := Aside0.mk (Own.below V_6.out hb)
      have X0_7 := Aside0.mk (Own.below X0_6.out hb)
      have HZ0_7 := Aside0.mk (CsAt.below HZ0_6.out hb)
      clear y00 y01 y02
      obtain ⟨y00, y01, y02⟩ := HY0.out _ HB7.out
      clear z00 z01 z02
      obtain ⟨z00, z01, z02⟩ := HZ0_7.out
      have X1 := Aside0.mk (Own.mk' (w0 := W0_) kBk_E hv HB6.out.size)
      have AP_V_X1 := Aside0.mk (Apart.new V_6.out hv)
      have AP_X0_X1 := Aside0.mk (Apart.new X0_6.out hv)
      clear hb hv
      obtain ⟨XX1, dX1, rfl, ldX1⟩ := X1.out.open
      go_wp2_with fail
      refine (HIM.out XX0 dX0 ldX0 XX1 dX1 ldX1 _ (X0_7.out.reads) (X1.out.reads)).mono ?_; rintro _ w8_ ⟨v', rfl, hb, v, rfl, hv⟩
      have HB8 := Aside0.mk (bstep HB7.out hb)
      have V_8 := Aside0.mk (Own.below V_7.out hb)
      have X0_8 := Aside0.mk (Own.below X0_7.out hb)
      have X1_8 := Aside0.mk (Own.below X1.out hb)
      have HZ0_8 := Aside0.mk (CsAt.below HZ0_7.out hb)
      clear y00 y01 y02
      obtain ⟨y00, y01, y02⟩ := HY0.out _ HB8.out
      clear z00 z01 z02
      obtain ⟨z00, z01, z02⟩ := HZ0_8.out
      have G := Aside0.mk (Own.mk' (w0 := W0_) (kInt_E _) hv HB7.out.size)
      have AP_V_G := Aside0.mk (Apart.new V_7.out hv)
      have AP_X0_G := Aside0.mk (Apart.new X0_7.out hv)
      have AP_X1_G := Aside0.mk (Apart.new X1.out hv)
      clear hb hv
      obtain ⟨XG, dG, rfl, ldG⟩ := G.out.open
      go_wp2_with fail
      refine (eqInt64S_c XG XV dG dV R R _ G.out.reads V_8.out.reads).mono ?_; rintro _ w9_ ⟨rfl, hb⟩
      have HB9 := Aside0.mk (bstep HB8.out hb)
      have V_9 := Aside0.mk (Own.below V_8.out hb)
      have X0_9 := Aside0.mk (Own.below X0_8.out hb)
      have X1_9 := Aside0.mk (Own.below X1_8.out hb)
      have G_9 := Aside0.mk (Own.below G.out hb)
      have HZ0_9 := Aside0.mk (CsAt.below HZ0_8.out hb)
      clear y00 y01 y02
      obtain ⟨y00, y01, y02⟩ := HY0.out _ HB9.out
      clear z00 z01 z02
      obtain ⟨z00, z01, z02⟩ := HZ0_9.out
      clear hb
      go_wp2_with fail
      have HYB := Aside0.mk (show ∀ w', Below w9_.heap.size w9_ w' → Below w9_.heap.size w9_ w' ∧ (w'.cell? ⟨w.heap.size, 0, none⟩ = some (.int .i16 k0.wd) ∧ w'.cell? ⟨w.heap.size, 1, none⟩ = some (.int .i32 k0.ld) ∧ w'.cell? ⟨w.heap.size, 2, none⟩ = some (.slice A0 k0.hs.length c0)) ∧ (w'.cell? ⟨w5_.heap.size, 0, none⟩ = some (.int .i16 k0.wd) ∧ w'.cell? ⟨w5_.heap.size, 1, none⟩ = some (.int .i32 k0.ld) ∧ w'.cell? ⟨w5_.heap.size, 2, none⟩ = some (.slice XX0 k0.hs.length dX0)) from fun w' h => ⟨h, by obtain ⟨a0, a1, a2⟩ := HY0.out _ (bstep HB9.out h); exact ⟨a0, a1, a2⟩, by obtain ⟨a0, a1, a2⟩ := CsAt.below HZ0_9.out h; exact ⟨a0, a1, a2⟩⟩)
      have HQ0 := Aside0.mk (show ∀ w', Below w9_.heap.size w9_ w' → (Kd.int .i16).C w' A0 k0.hs.length k0.hs from fun w' h => Kd.C_below HL0.out (HW.out.trans ((bstep HB9.out h).mono HW.out.size)))
      go_region_held3 (fun w' => Below w9_.heap.size w9_ w' ∧ (w'.cell? ⟨w.heap.size, 0, none⟩ = some (.int .i16 k0.wd) ∧ w'.cell? ⟨w.heap.size, 1, none⟩ = some (.int .i32 k0.ld) ∧ w'.cell? ⟨w.heap.size, 2, none⟩ = some (.slice A0 k0.hs.length c0)) ∧ (w'.cell? ⟨w5_.heap.size, 0, none⟩ = some (.int .i16 k0.wd) ∧ w'.cell? ⟨w5_.heap.size, 1, none⟩ = some (.int .i32 k0.ld) ∧ w'.cell? ⟨w5_.heap.size, 2, none⟩ = some (.slice XX0 k0.hs.length dX0)))
        (first | exact HYB.out _ (bdrew (Below.refl _ _)) | exact HYB.out _ (bstep (And.left (by assumption)) hq1) | exact HYB.out _ (bstep (And.left (by assumption)) hq2))
        (first | (go_at_call 44; refine (toCase_c k0 A0 c0 _ (HQ0.out _ (And.left (by assumption))) HN0.out).mono ?_; rintro _ wq1 ⟨_, rfl, hq1, XQ, dQ, rfl, hvq⟩; have HVQ := Aside0.mk (Kd.R_reads' hvq).2.2; clear hvq; simp only [Cs.val]) | (go_at_call 46; refine (eqCase_c k0 k0 XX0 XQ dX0 dQ _ (Kd.C_below (Kd.C_below X0_9.out.reads (bdrew (Below.refl _ _))) hq1) HVQ.out).mono ?_; rintro _ wq2 ⟨rfl, hq2⟩))
      have hb : Below w9_.heap.size w9_ wq2 := And.left (by assumption)
      clear HYB HQ0
      clear hq1 hq2
      obtain ⟨w10_, hwn⟩ : ∃ W, W = wq2 := ⟨_, rfl⟩
      subst hwn
      have HB10 := Aside0.mk (bstep HB9.out hb)
      have V_10 := Aside0.mk (Own.below V_9.out hb)
      have X0_10 := Aside0.mk (Own.below X0_9.out hb)
      have X1_10 := Aside0.mk (Own.below X1_9.out hb)
      have G_10 := Aside0.mk (Own.below G_9.out hb)
      have HZ0_10 := Aside0.mk (CsAt.below HZ0_9.out hb)
      clear y00 y01 y02
      obtain ⟨y00, y01, y02⟩ := HY0.out _ HB10.out
      clear z00 z01 z02
      obtain ⟨z00, z01, z02⟩ := HZ0_10.out
      clear hb
      go_wp2_with fail
      refine (toBookS_c A1 c1 L1 _ (Kd.C_below HL1.out (HW.out.trans (HB10.out.mono HW.out.size))) HN1.out).mono ?_; rintro _ w11_ ⟨v, rfl, hb, hv⟩
      have HB11 := Aside0.mk (bstep HB10.out hb)
      have V_11 := Aside0.mk (Own.below V_10.out hb)
      have X0_11 := Aside0.mk (Own.below X0_10.out hb)
      have X1_11 := Aside0.mk (Own.below X1_10.out hb)
      have G_11 := Aside0.mk (Own.below G_10.out hb)
      have HZ0_11 := Aside0.mk (CsAt.below HZ0_10.out hb)
      clear y00 y01 y02
      obtain ⟨y00, y01, y02⟩ := HY0.out _ HB11.out
      clear z00 z01 z02
      obtain ⟨z00, z01, z02⟩ := HZ0_11.out
      have T1 := Aside0.mk (Own.mk' (w0 := W0_) kBk_E hv HB10.out.size)
      clear hb hv
      obtain ⟨XT1, dT1, rfl, ldT1⟩ := T1.out.open
      go_wp2_with fail
      refine (eqBookS_c XX1 XT1 dX1 dT1 L1 L1 _ X1_11.out.reads T1.out.reads).mono ?_; rintro _ w12_ ⟨rfl, hb⟩
      have HB12 := Aside0.mk (bstep HB11.out hb)
      have V_12 := Aside0.mk (Own.below V_11.out hb)
      have X0_12 := Aside0.mk (Own.below X0_11.out hb)
      have X1_12 := Aside0.mk (Own.below X1_11.out hb)
      have G_12 := Aside0.mk (Own.below G_11.out hb)
      have T1_12 := Aside0.mk (Own.below T1.out hb)
      have HZ0_12 := Aside0.mk (CsAt.below HZ0_11.out hb)
      clear y00 y01 y02
      obtain ⟨y00, y01, y02⟩ := HY0.out _ HB12.out
      clear z00 z01 z02
      obtain ⟨z00, z01, z02⟩ := HZ0_12.out
      clear hb
      go_wp2_with fail
      refine (markCase_c k0 XX0 dX0 (1) W0_ _ X0_12.out (by omega) (by omega) (by omega)).mono ?_; rintro _ w13_ ⟨rfl, ho, hg⟩
      have HB13 := Aside0.mk (Own.mark X0_12.out HB12.out hg)
      have V_13 := Aside0.mk (Own.grown V_12.out hg AP_V_X0.out)
      have X1_13 := Aside0.mk (Own.grown X1_12.out hg AP_X0_X1.out.symm)
      have G_13 := Aside0.mk (Own.grown G_12.out hg AP_X0_G.out.symm)
      have X0_13 := Aside0.mk ho
      clear ho hg
      clear y00 y01 y02
      obtain ⟨y00, y01, y02⟩ := HY0.out _ HB13.out
      go_wp2_with fail
      refine (markBookS_c XX1 dX1 L1 (1 + (k0.hs.length : Int)) W0_ _ X1_13.out (by omega) (by omega) (by first | exact hRL | omega)).mono ?_; rintro _ w14_ ⟨rfl, ho, hg⟩
      have HB14 := Aside0.mk (Own.mark X1_13.out HB13.out hg)
      have V_14 := Aside0.mk (Own.grown V_13.out hg AP_V_X1.out)
      have G_14 := Aside0.mk (Own.grown G_13.out hg AP_X1_G.out.symm)
      have X1_14 := Aside0.mk ho
      clear ho hg
      clear y00 y01 y02
      obtain ⟨y00, y01, y02⟩ := HY0.out _ HB14.out
      go_wp2_with fail
      refine (eqInt64S_c XG XV dG dV R R _ G_14.out.reads V_14.out.reads).mono ?_; rintro _ w15_ ⟨rfl, hb⟩
      have HB15 := Aside0.mk (bstep HB14.out hb)
      have V_15 := Aside0.mk (Own.below V_14.out hb)
      have G_15 := Aside0.mk (Own.below G_14.out hb)
      clear y00 y01 y02
      obtain ⟨y00, y01, y02⟩ := HY0.out _ HB15.out
      clear hb
      go_wp2_with fail
      refine (markInt64S_c XG dG R (1) W0_ _ G_15.out (by omega) (by omega) (by first | exact hRL | omega)).mono ?_; rintro _ w16_ ⟨rfl, ho, hg⟩
      have HB16 := Aside0.mk (Own.mark G_15.out HB15.out hg)
      have V_16 := Aside0.mk (Own.grown V_15.out hg AP_V_G.out)
      have G_16 := Aside0.mk ho
      clear ho hg
      clear y00 y01 y02
      obtain ⟨y00, y01, y02⟩ := HY0.out _ HB16.out
      go_wp2_with fail
      refine (heldInt64S_c XG dG R.length 1 _ (heldCI G_16.out) (by omega) (by omega) hRL).mono ?_; rintro _ w17_ ⟨rfl, rfl⟩
      go_wp2_with fail
      refine (toCase_c k0 A0 c0 _ (Kd.C_below HL0.out (HW.out.trans (HB16.out.mono HW.out.size))) HN0.out).mono ?_; rintro _ w17_ ⟨_, rfl, hb, XU0, dU0, rfl, hv⟩
      have HB17 := Aside0.mk (bstep HB16.out hb)
      have V_17 := Aside0.mk (Own.below V_16.out hb)
      have G_17 := Aside0.mk (Own.below G_16.out hb)
      clear y00 y01 y02
      obtain ⟨y00, y01, y02⟩ := HY0.out _ HB17.out
      have U0 := Aside0.mk (Own.mk' (w0 := W0_) (kInt_E _) hv HB16.out.size)
      clear hb hv
      have ldU0 := (Kd.R_reads' U0.out).2.1
      simp only [Cs.val]
      go_wp2_with fail
      refine (toBookS_c A1 c1 L1 _ (Kd.C_below HL1.out (HW.out.trans (HB17.out.mono HW.out.size))) HN1.out).mono ?_; rintro _ w18_ ⟨v, rfl, hb, hv⟩
      have HB18 := Aside0.mk (bstep HB17.out hb)
      have V_18 := Aside0.mk (Own.below V_17.out hb)
      have G_18 := Aside0.mk (Own.below G_17.out hb)
      have U0_18 := Aside0.mk (Own.below U0.out hb)
      clear y00 y01 y02
      obtain ⟨y00, y01, y02⟩ := HY0.out _ HB18.out
      have U1 := Aside0.mk (Own.mk' (w0 := W0_) kBk_E hv HB17.out.size)
      clear hb hv
      obtain ⟨XU1, dU1, rfl, ldU1⟩ := U1.out.open
      go_wp2_with fail
      refine (HIM.out XU0 dU0 ldU0 XU1 dU1 ldU1 _ (U0_18.out.reads) (U1.out.reads)).mono ?_; rintro _ w19_ ⟨v', rfl, hb, v, rfl, hv⟩
      have HB19 := Aside0.mk (bstep HB18.out hb)
      have V_19 := Aside0.mk (Own.below V_18.out hb)
      have G_19 := Aside0.mk (Own.below G_18.out hb)
      have U0_19 := Aside0.mk (Own.below U0_18.out hb)
      have U1_19 := Aside0.mk (Own.below U1.out hb)
      clear y00 y01 y02
      obtain ⟨y00, y01, y02⟩ := HY0.out _ HB19.out
      have H := Aside0.mk (Own.mk' (w0 := W0_) (kInt_E _) hv HB18.out.size)
      clear hb hv
      obtain ⟨XH, dH, rfl, ldH⟩ := H.out.open
      go_wp2_with fail
      refine (eqInt64S_c XH XV dH dV R R _ H.out.reads V_19.out.reads).mono ?_; rintro _ w20_ ⟨rfl, hb⟩
      have HB20 := Aside0.mk (bstep HB19.out hb)
      have V_20 := Aside0.mk (Own.below V_19.out hb)
      have G_20 := Aside0.mk (Own.below G_19.out hb)
      have H_20 := Aside0.mk (Own.below H.out hb)
      clear y00 y01 y02
      obtain ⟨y00, y01, y02⟩ := HY0.out _ HB20.out
      clear hb
      go_wp2_with fail
      refine (heldInt64S_c XG dG R.length 1 _ (heldCI G_20.out) (by omega) (by omega) hRL).mono ?_; rintro _ w21_ ⟨rfl, rfl⟩
      go_wp2_with fail
      go_ret
      exact ⟨rfl, (HW.out.trans (HB20.out.mono HW.out.size))⟩
end Go.Proofs.Ytdippdkneeocfaa
