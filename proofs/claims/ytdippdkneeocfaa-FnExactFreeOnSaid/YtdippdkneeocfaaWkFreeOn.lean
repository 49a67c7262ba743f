/- The law FnExactFreeOn returns true of every input. -/
import Derived.Test.YtdippdkneeocfaaFree
import Derived.Test.YtdippdkneeocfaaMarkB
import Derived.Test.YtdippdkneeocfaaToS
import Derived.Test.YtdippdkneeocfaaEq
import Derived.Deep.RegionHeld3
namespace Go.Proofs.Ytdippdkneeocfaa
open Go.RowKit Go.Proofs.YtdippdkneeocfaaW.PrintWords Go.Proofs.YtdippdkneeocfaaW.PrintMore
set_option linter.unusedVariables false
set_option linter.unusedSimpArgs false
set_option maxRecDepth 100000

set_option maxHeartbeats 8000000 in
theorem FnExactFreeOn_c {w : World} (k0 : Cs) (A0 : Option Addr) (c0 : Nat) (hlc0 : k0.hs.length ≤ c0) (hL0 : (Kd.int .i16).C w A0 k0.hs.length k0.hs) (hok0 : k0.ok) (A1 : Option Addr) (c1 : Nat) (L1 : List Bk) (hlc1 : L1.length ≤ c1) (hL1 : kBk.C w A1 L1.length L1) (hok1 : OkL L1) (A2 : Option Addr) (c2 : Nat) (L2 : List Int) (hlc2 : L2.length ≤ c2) (hL2 : (Kd.int .i64).C w A2 L2.length L2) (hok2 : OkI64 L2) :
    Calls Try.prog 19 #[k0.val A0 c0, .slice A1 L1.length c1, .slice A2 L2.length c2] w (Ret w (.bool true)) := by
  have hr0 := Kd.C_max hL0
  have HR0 := Aside0.mk hr0
  have HL0 := Aside0.mk hL0
  have HO0 := Aside0.mk hok0
  clear hL0 hok0 hr0
  have hr1 := Kd.C_max hL1
  have HR1 := Aside0.mk hr1
  have HL1 := Aside0.mk hL1
  have HO1 := Aside0.mk hok1
  clear hL1 hok1 hr1
  have hr2 := Kd.C_max hL2
  have HR2 := Aside0.mk hr2
  have HL2 := Aside0.mk hL2
  have HO2 := Aside0.mk hok2
  clear hL2 hok2 hr2
  have HW := Aside0.mk (show Below w.heap.size w (w.alloc (.cells #[.int .i16 k0.wd, .int .i32 k0.ld, .slice A0 k0.hs.length c0] 48)) from (balloc (Below.refl _ _) _))
  have hy0 : CsAt (w.alloc (.cells #[.int .i16 k0.wd, .int .i32 k0.ld, .slice A0 k0.hs.length c0] 48)) ⟨w.heap.size, 0, none⟩ k0 A0 c0 := CsAt.box w k0 A0 c0 48
  try simp only [World.size_alloc] at hy0
  have HYC0 := Aside0.mk hy0
  clear hy0
  have HY0 := Aside0.mk (show ∀ W, Below ((w.alloc (.cells #[.int .i16 k0.wd, .int .i32 k0.ld, .slice A0 k0.hs.length c0] 48))).heap.size (w.alloc (.cells #[.int .i16 k0.wd, .int .i32 k0.ld, .slice A0 k0.hs.length c0] 48)) W → CsAt W ⟨w.heap.size, 0, none⟩ k0 A0 c0 from fun W h => HYC0.out.below h)
  have HB0 := Aside0.mk (Below.refl ((w.alloc (.cells #[.int .i16 k0.wd, .int .i32 k0.ld, .slice A0 k0.hs.length c0] 48))).heap.size (w.alloc (.cells #[.int .i16 k0.wd, .int .i32 k0.ld, .slice A0 k0.hs.length c0] 48)))
  by_cases hlt2 : (1048576 : Int) < (L2.length : Int)
  · skip
    obtain ⟨y00, y01, y02⟩ := HYC0.out
    simp only [Cs.val]
    go_enter Try.func19, Try.ntmps19
    go_wp2_with fail
    clear HYC0
    generalize HW0E : World.alloc w _ = W0_ at HW HB0 HY0 y00 y01 y02 ⊢
    clear HW0E
    go_ret
    exact ⟨rfl, HW.out.trans (HB0.out.mono HW.out.size)⟩
  · have hle2 : (L2.length : Int) ≤ 1048576 := by omega
    by_cases hlt0 : (1048576 : Int) < (k0.hs.length : Int)
    · skip
      obtain ⟨y00, y01, y02⟩ := HYC0.out
      simp only [Cs.val]
      go_enter Try.func19, Try.ntmps19
      go_wp2_with fail
      clear HYC0
      generalize HW0E : World.alloc w _ = W0_ at HW HB0 HY0 y00 y01 y02 ⊢
      clear HW0E
      refine (szCase_lt k0 A0 c0 _ _ HR0.out (by omega) (by omega) (by omega)).mono ?_; rintro _ w1_ ⟨rfl, hb⟩
      have HB1 := Aside0.mk (bstep HB0.out hb)
      clear hb
      clear y00 y01 y02
      obtain ⟨y00, y01, y02⟩ := HY0.out _ HB1.out
      go_wp2_with fail
      go_ret
      exact ⟨rfl, HW.out.trans (HB1.out.mono HW.out.size)⟩
    · have hle0 : (k0.hs.length : Int) ≤ (1048576 : Int) := by omega
      by_cases hlt1 : ((1048576 : Int) - (k0.hs.length : Int)) < (L1.length : Int)
      · skip
        obtain ⟨y00, y01, y02⟩ := HYC0.out
        simp only [Cs.val]
        go_enter Try.func19, Try.ntmps19
        go_wp2_with fail
        clear HYC0
        generalize HW0E : World.alloc w _ = W0_ at HW HB0 HY0 y00 y01 y02 ⊢
        clear HW0E
        refine (szCase_ge k0 A0 c0 _ _ HR0.out (by omega) (by omega) (by omega)).mono ?_; rintro _ w1_ ⟨rfl, hb⟩
        have HB1 := Aside0.mk (bstep HB0.out hb)
        clear hb
        clear y00 y01 y02
        obtain ⟨y00, y01, y02⟩ := HY0.out _ HB1.out
        go_wp2_with fail
        refine (szBookS_lt A1 c1 _ _ _ HR1.out (by omega) (by omega) (by omega)).mono ?_; rintro _ w0_ ⟨rfl, rfl⟩
        go_wp2_with fail
        go_ret
        exact ⟨rfl, HW.out.trans (HB1.out.mono HW.out.size)⟩
      · have hle1 : (L1.length : Int) ≤ ((1048576 : Int) - (k0.hs.length : Int)) := by omega
        have HN0 := Aside0.mk (show k0.hs.length ≤ 2097152 by omega)
        have HN1 := Aside0.mk (show L1.length ≤ 2097152 by omega)
        have HN2 := Aside0.mk (show L2.length ≤ 2097152 by omega)
        have HSP := Aside0.mk (fun (X0 : Option Addr) (d0 : Nat) (l0 : k0.hs.length ≤ d0) (X1 : Option Addr) (d1 : Nat) (l1 : L1.length ≤ d1) (X2 : Option Addr) (d2 : Nat) (l2 : L2.length ≤ d2) (W : World) (h0 : (Kd.int .i16).C W X0 k0.hs.length k0.hs) (h1 : kBk.C W X1 L1.length L1) (h2 : (Kd.int .i64).C W X2 L2.length L2) => specFreeOn_c k0 X0 d0 X1 d1 L1 X2 d2 L2 HO0.out HO1.out l1 W h0 h1 h2)
        have HIM := Aside0.mk (fun (X0 : Option Addr) (d0 : Nat) (l0 : k0.hs.length ≤ d0) (X1 : Option Addr) (d1 : Nat) (l1 : L1.length ≤ d1) (X2 : Option Addr) (d2 : Nat) (l2 : L2.length ≤ d2) (W : World) (h0 : (Kd.int .i16).C W X0 k0.hs.length k0.hs) (h1 : kBk.C W X1 L1.length L1) (h2 : (Kd.int .i64).C W X2 L2.length L2) => FreeOn_c k0 X0 d0 X1 d1 L1 X2 d2 L2 HO0.out HO1.out l1 W h0 h1 h2)
        simp only [Cs.val] at HSP HIM
        have HRL := Aside0.mk (show (frV k0 L1 L2).length ≤ 2097152 from Nat.le_trans (frV_len k0 L1 L2) HN2.out)
        obtain ⟨R, hR⟩ : ∃ R, frV k0 L1 L2 = R := ⟨_, rfl⟩
        rw [hR] at HSP HIM HRL
        clear hR
        obtain ⟨e0, he0⟩ : ∃ e, layC k0 L1 L2 = e := ⟨_, rfl⟩
        rw [he0] at HSP HIM
        clear he0
        have hRL := HRL.out
        have hle0_ := HN0.out
        have hle1_ := HN1.out
        have hle2_ := HN2.out
        obtain ⟨y00, y01, y02⟩ := HYC0.out
        simp only [Cs.val]
        go_enter Try.func19, Try.ntmps19
        go_wp2_with fail
        clear HYC0
        generalize HW0E : World.alloc w _ = W0_ at HW HB0 HY0 y00 y01 y02 ⊢
        clear HW0E
        refine (szCase_ge k0 A0 c0 _ _ HR0.out (by omega) (by omega) (by omega)).mono ?_; rintro _ w1_ ⟨rfl, hb⟩
        have HB1 := Aside0.mk (bstep HB0.out hb)
        clear hb
        clear y00 y01 y02
        obtain ⟨y00, y01, y02⟩ := HY0.out _ HB1.out
        go_wp2_with fail
        refine (szBookS_ge A1 c1 _ _ _ HR1.out (by omega) (by omega) (by omega)).mono ?_; rintro _ w0_ ⟨rfl, rfl⟩
        go_wp2_with fail
        refine (toCase_c k0 A0 c0 _ (Kd.C_below HL0.out (HW.out.trans (HB1.out.mono HW.out.size))) HN0.out).mono ?_; rintro _ w2_ ⟨_, rfl, hb, XS0, dS0, rfl, hv⟩
        have HB2 := Aside0.mk (bstep HB1.out hb)
        clear y00 y01 y02
        obtain ⟨y00, y01, y02⟩ := HY0.out _ HB2.out
        have S0 := Aside0.mk (Own.mk' (w0 := W0_) (kInt_E _) hv HB1.out.size)
        clear hb hv
        have ldS0 := (Kd.R_reads' S0.out).2.1
        simp only [Cs.val]
        go_wp2_with fail
        refine (toBookS_c A1 c1 L1 _ (Kd.C_below HL1.out (HW.out.trans (HB2.out.mono HW.out.size))) HN1.out).mono ?_; rintro _ w3_ ⟨v, rfl, hb, hv⟩
        have HB3 := Aside0.mk (bstep HB2.out hb)
        have S0_3 := Aside0.mk (Own.below S0.out hb)
        clear y00 y01 y02
        obtain ⟨y00, y01, y02⟩ := HY0.out _ HB3.out
        have S1 := Aside0.mk (Own.mk' (w0 := W0_) kBk_E hv HB2.out.size)
        clear hb hv
        obtain ⟨XS1, dS1, rfl, ldS1⟩ := S1.out.open
        go_wp2_with fail
        refine (toInt64S_c A2 c2 L2 _ (Kd.C_below HL2.out (HW.out.trans (HB3.out.mono HW.out.size))) HN2.out).mono ?_; rintro _ w4_ ⟨v, rfl, hb, hv⟩
        have HB4 := Aside0.mk (bstep HB3.out hb)
        have S0_4 := Aside0.mk (Own.below S0_3.out hb)
        have S1_4 := Aside0.mk (Own.below S1.out hb)
        clear y00 y01 y02
        obtain ⟨y00, y01, y02⟩ := HY0.out _ HB4.out
        have S2 := Aside0.mk (Own.mk' (w0 := W0_) (kInt_E _) hv HB3.out.size)
        clear hb hv
        obtain ⟨XS2, dS2, rfl, ldS2⟩ := S2.out.open
        go_wp2_with fail
        refine (HSP.out XS0 dS0 ldS0 XS1 dS1 ldS1 XS2 dS2 ldS2 _ (S0_4.out.reads) (S1_4.out.reads) (S2.out.reads)).mono ?_; rintro _ w5_ ⟨v', rfl, hb, v, rfl, hv⟩
        have HB5 := Aside0.mk (bstep HB4.out hb)
        have S0_5 := Aside0.mk (Own.below S0_4.out hb)
        have S1_5 := Aside0.mk (Own.below S1_4.out hb)
        have S2_5 := Aside0.mk (Own.below S2.out hb)
        clear y00 y01 y02
        obtain ⟨y00, y01, y02⟩ := HY0.out _ HB5.out
        have V := Aside0.mk (Own.mk' (w0 := W0_) (kInt_E _) hv HB4.out.size)
        clear hb hv
        obtain ⟨XV, dV, rfl, ldV⟩ := V.out.open
        go_wp2_with fail
        refine (toCase_c k0 A0 c0 _ (Kd.C_below HL0.out (HW.out.trans (HB5.out.mono HW.out.size))) HN0.out).mono ?_; rintro _ w6_ ⟨_, rfl, hb, XX0, dX0, rfl, hv⟩
        have HB6 := Aside0.mk (bstep HB5.out hb)
        have V_6 := Aside0.mk (Own.below V.out hb)
        clear y00 y01 y02
        obtain ⟨y00, y01, y02⟩ := HY0.out _ HB6.out
        have X0 := Aside0.mk (Own.mk' (w0 := W0_) (kInt_E _) hv HB5.out.size)
        have AP_V_X0 := Aside0.mk (Apart.new V.out hv)
        clear hb hv
        have ldX0 := (Kd.R_reads' X0.out).2.1
        simp only [Cs.val]
        clear y00 y01 y02
        have HBA := Aside0.mk (show Below W0_.heap.size W0_ (World.alloc w6_ (.cells #[.int .i16 k0.wd, .int .i32 k0.ld, .slice XX0 k0.hs.length dX0] 51)) from balloc HB6.out _)
        obtain ⟨y00, y01, y02⟩ := HY0.out _ HBA.out
        go_wp2_with fail
        have hbx : CsAt (World.alloc w6_ (.cells #[.int .i16 k0.wd, .int .i32 k0.ld, .slice XX0 k0.hs.length dX0] 51)) ⟨w6_.heap.size, 0, none⟩ k0 XX0 dX0 := CsAt.box w6_ k0 XX0 dX0 51
        have hb : Below w6_.heap.size w6_ (World.alloc w6_ (.cells #[.int .i16 k0.wd, .int .i32 k0.ld, .slice XX0 k0.hs.length dX0] 51)) := balloc (Below.refl _ _) _
        clear y00 y01 y02
        clear HBA 
        obtain ⟨y00, y01, y02⟩ := HY0.out _ HB6.out
        generalize hWX : World.alloc w6_ _ = w7_ at hbx hb ⊢
        clear hWX
        have HB7 := Aside0.mk (bstep HB6.out hb)
        have V_7 := Aside0.mk (Own.below V_6.out hb)
        have X0_7 := Aside0.mk (Own.below X0.out hb)
        have HZ0_7 := Aside0.mk hbx
        clear hbx hb
        clear y00 y01 y02
        obtain ⟨y00, y01, y02⟩ := HY0.out _ HB7.out
        obtain ⟨z00, z01, z02⟩ := HZ0_7.out
        refine (toBookS_c A1 c1 L1 _ (Kd.C_below HL1.out (HW.out.trans (HB7.out.mono HW.out.size))) HN1.out).mono ?_; rintro _ w8_ ⟨v, rfl, hb, hv⟩
        have HB8 := Aside0.mk (bstep HB7.out hb)
        have V_8 := Aside0.mk (Own.below V_7.out hb)
        have X0_8 := Aside0.mk (Own.below X0_7.out hb)
        have HZ0_8 := Aside0.mk (CsAt.below HZ0_7.out hb)
        clear y00 y01 y02
        obtain ⟨y00, y01, y02⟩ := HY0.out _ HB8.out
        clear z00 z01 z02
        obtain ⟨z00, z01, z02⟩ := HZ0_8.out
        have X1 := Aside0.mk (Own.mk' (w0 := W0_) kBk_E hv HB7.out.size)
        have AP_V_X1 := Aside0.mk (Apart.new V_7.out hv)
        have AP_X0_X1 := Aside0.mk (Apart.new X0_7.out hv)
        clear hb hv
        obtain ⟨XX1, dX1, rfl, ldX1⟩ := X1.out.open
        go_wp2_with fail
        refine (toInt64S_c A2 c2 L2 _ (Kd.C_below HL2.out (HW.out.trans (HB8.out.mono HW.out.size))) HN2.out).mono ?_; rintro _ w9_ ⟨v, rfl, hb, hv⟩
        have HB9 := Aside0.mk (bstep HB8.out hb)
        have V_9 := Aside0.mk (Own.below V_8.out hb)
        have X0_9 := Aside0.mk (Own.below X0_8.out hb)
        have X1_9 := Aside0.mk (Own.below X1.out hb)
        have HZ0_9 := Aside0.mk (CsAt.below HZ0_8.out hb)
        clear y00 y01 y02
        obtain ⟨y00, y01, y02⟩ := HY0.out _ HB9.out
        clear z00 z01 z02
        obtain ⟨z00, z01, z02⟩ := HZ0_9.out
        have X2 := Aside0.mk (Own.mk' (w0 := W0_) (kInt_E _) hv HB8.out.size)
        have AP_V_X2 := Aside0.mk (Apart.new V_8.out hv)
        have AP_X0_X2 := Aside0.mk (Apart.new X0_8.out hv)
        have AP_X1_X2 := Aside0.mk (Apart.new X1.out hv)
        clear hb hv
        obtain ⟨XX2, dX2, rfl, ldX2⟩ := X2.out.open
        go_wp2_with fail
        refine (HIM.out XX0 dX0 ldX0 XX1 dX1 ldX1 XX2 dX2 ldX2 _ (X0_9.out.reads) (X1_9.out.reads) (X2.out.reads)).mono ?_; rintro _ w10_ ⟨v', rfl, hb, v, rfl, hv⟩
        have HB10 := Aside0.mk (bstep HB9.out hb)
        have V_10 := Aside0.mk (Own.below V_9.out hb)
        have X0_10 := Aside0.mk (Own.below X0_9.out hb)
        have X1_10 := Aside0.mk (Own.below X1_9.out hb)
        have X2_10 := Aside0.mk (Own.below X2.out hb)
        have HZ0_10 := Aside0.mk (CsAt.below HZ0_9.out hb)
        clear y00 y01 y02
        obtain ⟨y00, y01, y02⟩ := HY0.out _ HB10.out
        clear z00 z01 z02
        obtain ⟨z00, z01, z02⟩ := HZ0_10.out
        have G := Aside0.mk (Own.mk' (w0 := W0_) (kInt_E _) hv HB9.out.size)
        have AP_V_G := Aside0.mk (Apart.new V_9.out hv)
        have AP_X0_G := Aside0.mk (Apart.new X0_9.out hv)
        have AP_X1_G := Aside0.mk (Apart.new X1_9.out hv)
        have AP_X2_G := Aside0.mk (Apart.new X2.out hv)
        clear hb hv
        obtain ⟨XG, dG, rfl, ldG⟩ := G.out.open
        go_wp2_with fail
        refine (eqInt64S_c XG XV dG dV R R _ G.out.reads V_10.out.reads).mono ?_; rintro _ w11_ ⟨rfl, hb⟩
        have HB11 := Aside0.mk (bstep HB10.out hb)
        have V_11 := Aside0.mk (Own.below V_10.out hb)
        have X0_11 := Aside0.mk (Own.below X0_10.out hb)
        have X1_11 := Aside0.mk (Own.below X1_10.out hb)
        have X2_11 := Aside0.mk (Own.below X2_10.out hb)
        have G_11 := Aside0.mk (Own.below G.out hb)
        have HZ0_11 := Aside0.mk (CsAt.below HZ0_10.out hb)
        clear y00 y01 y02
        obtain ⟨y00, y01, y02⟩ := HY0.out _ HB11.out
        clear z00 z01 z02
        obtain ⟨z00, z01, z02⟩ := HZ0_11.out
        clear hb
        go_wp2_with fail
        have HYB := Aside0.mk (show ∀ w', Below w11_.heap.size w11_ w' → Below w11_.heap.size w11_ w' ∧ (w'.cell? ⟨w.heap.size, 0, none⟩ = some (.int .i16 k0.wd) ∧ w'.cell? ⟨w.heap.size, 1, none⟩ = some (.int .i32 k0.ld) ∧ w'.cell? ⟨w.heap.size, 2, none⟩ = some (.slice A0 k0.hs.length c0)) ∧ (w'.cell? ⟨w6_.heap.size, 0, none⟩ = some (.int .i16 k0.wd) ∧ w'.cell? ⟨w6_.heap.size, 1, none⟩ = some (.int .i32 k0.ld) ∧ w'.cell? ⟨w6_.heap.size, 2, none⟩ = some (.slice XX0 k0.hs.length dX0)) from fun w' h => ⟨h, by obtain ⟨a0, a1, a2⟩ := HY0.out _ (bstep HB11.out h); exact ⟨a0, a1, a2⟩, by obtain ⟨a0, a1, a2⟩ := CsAt.below HZ0_11.out h; exact ⟨a0, a1, a2⟩⟩)
        have HQ0 := Aside0.mk (show ∀ w', Below w11_.heap.size w11_ w' → (Kd.int .i16).C w' A0 k0.hs.length k0.hs from fun w' h => Kd.C_below HL0.out (HW.out.trans ((bstep HB11.out h).mono HW.out.size)))
        go_region_held3 (fun w' => Below w11_.heap.size w11_ w' ∧ (w'.cell? ⟨w.heap.size, 0, none⟩ = some (.int .i16 k0.wd) ∧ w'.cell? ⟨w.heap.size, 1, none⟩ = some (.int .i32 k0.ld) ∧ w'.cell? ⟨w.heap.size, 2, none⟩ = some (.slice A0 k0.hs.length c0)) ∧ (w'.cell? ⟨w6_.heap.size, 0, none⟩ = some (.int .i16 k0.wd) ∧ w'.cell? ⟨w6_.heap.size, 1, none⟩ = some (.int .i32 k0.ld) ∧ w'.cell? ⟨w6_.heap.size, 2, none⟩ = some (.slice XX0 k0.hs.length dX0)))
          (first | exact HYB.out _ (bdrew (Below.refl _ _)) | exact HYB.out _ (bstep (And.left (by assumption)) hq1) | exact HYB.out _ (bstep (And.left (by assumption)) hq2))
          (first | (go_at_call 44; refine (toCase_c k0 A0 c0 _ (HQ0.out _ (And.left (by assumption))) HN0.out).mono ?_; rintro _ wq1 ⟨_, rfl, hq1, XQ, dQ, rfl, hvq⟩; have HVQ := Aside0.mk (Kd.R_reads' hvq).2.2; clear hvq; simp only [Cs.val]) | (go_at_call 46; refine (eqCase_c k0 k0 XX0 XQ dX0 dQ _ (Kd.C_below (Kd.C_below X0_11.out.reads (bdrew (Below.refl _ _))) hq1) HVQ.out).mono ?_; rintro _ wq2 ⟨rfl, hq2⟩))
        have hb : Below w11_.heap.size w11_ wq2 := And.left (by assumption)
        clear HYB HQ0
        clear hq1 hq2
        obtain ⟨w12_, hwn⟩ : ∃ W, W = wq2 := ⟨_, rfl⟩
        subst hwn
        have HB12 := Aside0.mk (bstep HB11.out hb)
        have V_12 := Aside0.mk (Own.below V_11.out hb)
        have X0_12 := Aside0.mk (Own.below X0_11.out hb)
        have X1_12 := Aside0.mk (Own.below X1_11.out hb)
        have X2_12 := Aside0.mk (Own.below X2_11.out hb)
        have G_12 := Aside0.mk (Own.below G_11.out hb)
        have HZ0_12 := Aside0.mk (CsAt.below HZ0_11.out hb)
        clear y00 y01 y02
        obtain ⟨y00, y01, y02⟩ := HY0.out _ HB12.out
        clear z00 z01 z02
        obtain ⟨z00, z01, z02⟩ := HZ0_12.out
        clear hb
        go_wp2_with fail
        refine (toBookS_c A1 c1 L1 _ (Kd.C_below HL1.out (HW.out.trans (HB12.out.mono HW.out.size))) HN1.out).mono ?_; rintro _ w13_ ⟨v, rfl, hb, hv⟩
        have HB13 := Aside0.mk (bstep HB12.out hb)
        have V_13 := Aside0.mk (Own.below V_12.out hb)
        have X0_13 := Aside0.mk (Own.below X0_12.out hb)
        have X1_13 := Aside0.mk (Own.below X1_12.out hb)
        have X2_13 := Aside0.mk (Own.below X2_12.out hb)
        have G_13 := Aside0.mk (Own.below G_12.out hb)
        have HZ0_13 := Aside0.mk (CsAt.below HZ0_12.out hb)
        clear y00 y01 y02
        obtain ⟨y00, y01, y02⟩ := HY0.out _ HB13.out
        clear z00 z01 z02
        obtain ⟨z00, z01, z02⟩ := HZ0_13.out
        have T1 := Aside0.mk (Own.mk' (w0 := W0_) kBk_E hv HB12.out.size)
        clear hb hv
        obtain ⟨XT1, dT1, rfl, ldT1⟩ := T1.out.open
        go_wp2_with fail
        refine (eqBookS_c XX1 XT1 dX1 dT1 L1 L1 _ X1_13.out.reads T1.out.reads).mono ?_; rintro _ w14_ ⟨rfl, hb⟩
        have HB14 := Aside0.mk (bstep HB13.out hb)
        have V_14 := Aside0.mk (Own.below V_13.out hb)
        have X0_14 := Aside0.mk (Own.below X0_13.out hb)
        have X1_14 := Aside0.mk (Own.below X1_13.out hb)
        have X2_14 := Aside0.mk (Own.below X2_13.out hb)
        have G_14 := Aside0.mk (Own.below G_13.out hb)
        have T1_14 := Aside0.mk (Own.below T1.out hb)
        have HZ0_14 := Aside0.mk (CsAt.below HZ0_13.out hb)
        clear y00 y01 y02
        obtain ⟨y00, y01, y02⟩ := HY0.out _ HB14.out
        clear z00 z01 z02
        obtain ⟨z00, z01, z02⟩ := HZ0_14.out
        clear hb
        go_wp2_with fail
        refine (toInt64S_c A2 c2 L2 _ (Kd.C_below HL2.out (HW.out.trans (HB14.out.mono HW.out.size))) HN2.out).mono ?_; rintro _ w15_ ⟨v, rfl, hb, hv⟩
        have HB15 := Aside0.mk (bstep HB14.out hb)
        have V_15 := Aside0.mk (Own.below V_14.out hb)
        have X0_15 := Aside0.mk (Own.below X0_14.out hb)
        have X1_15 := Aside0.mk (Own.below X1_14.out hb)
        have X2_15 := Aside0.mk (Own.below X2_14.out hb)
        have G_15 := Aside0.mk (Own.below G_14.out hb)
        have HZ0_15 := Aside0.mk (CsAt.below HZ0_14.out hb)
        clear y00 y01 y02
        obtain ⟨y00, y01, y02⟩ := HY0.out _ HB15.out
        clear z00 z01 z02
        obtain ⟨z00, z01, z02⟩ := HZ0_15.out
        have T2 := Aside0.mk (Own.mk' (w0 := W0_) (kInt_E _) hv HB14.out.size)
        clear hb hv
        obtain ⟨XT2, dT2, rfl, ldT2⟩ := T2.out.open
        go_wp2_with fail
        refine (eqInt64S_c XX2 XT2 dX2 dT2 L2 L2 _ X2_15.out.reads T2.out.reads).mono ?_; rintro _ w16_ ⟨rfl, hb⟩
        have HB16 := Aside0.mk (bstep HB15.out hb)
        have V_16 := Aside0.mk (Own.below V_15.out hb)
        have X0_16 := Aside0.mk (Own.below X0_15.out hb)
        have X1_16 := Aside0.mk (Own.below X1_15.out hb)
        have X2_16 := Aside0.mk (Own.below X2_15.out hb)
        have G_16 := Aside0.mk (Own.below G_15.out hb)
        have T2_16 := Aside0.mk (Own.below T2.out hb)
        have HZ0_16 := Aside0.mk (CsAt.below HZ0_15.out hb)
        clear y00 y01 y02
        obtain ⟨y00, y01, y02⟩ := HY0.out _ HB16.out
        clear z00 z01 z02
        obtain ⟨z00, z01, z02⟩ := HZ0_16.out
        clear hb
        go_wp2_with fail
        refine (markCase_c k0 XX0 dX0 (1) W0_ _ X0_16.out (by omega) (by omega) (by omega)).mono ?_; rintro _ w17_ ⟨rfl, ho, hg⟩
        have HB17 := Aside0.mk (Own.mark X0_16.out HB16.out hg)
        have V_17 := Aside0.mk (Own.grown V_16.out hg AP_V_X0.out)
        have X1_17 := Aside0.mk (Own.grown X1_16.out hg AP_X0_X1.out.symm)
        have X2_17 := Aside0.mk (Own.grown X2_16.out hg AP_X0_X2.out.symm)
        have G_17 := Aside0.mk (Own.grown G_16.out hg AP_X0_G.out.symm)
        have X0_17 := Aside0.mk ho
        clear ho hg
        clear y00 y01 y02
        obtain ⟨y00, y01, y02⟩ := HY0.out _ HB17.out
        go_wp2_with fail
        refine (markBookS_c XX1 dX1 L1 (1 + (k0.hs.length : Int)) W0_ _ X1_17.out (by omega) (by omega) (by first | exact hRL | omega)).mono ?_; rintro _ w18_ ⟨rfl, ho, hg⟩
        have HB18 := Aside0.mk (Own.mark X1_17.out HB17.out hg)
        have V_18 := Aside0.mk (Own.grown V_17.out hg AP_V_X1.out)
        have X2_18 := Aside0.mk (Own.grown X2_17.out hg AP_X1_X2.out.symm)
        have G_18 := Aside0.mk (Own.grown G_17.out hg AP_X1_G.out.symm)
        have X1_18 := Aside0.mk ho
        clear ho hg
        clear y00 y01 y02
        obtain ⟨y00, y01, y02⟩ := HY0.out _ HB18.out
        go_wp2_with fail
        refine (markInt64S_c XX2 dX2 L2 (1 + (k0.hs.length : Int) + 8 * (L1.length : Int)) W0_ _ X2_18.out (by omega) (by omega) (by first | exact hRL | omega)).mono ?_; rintro _ w19_ ⟨rfl, ho, hg⟩
        have HB19 := Aside0.mk (Own.mark X2_18.out HB18.out hg)
        have V_19 := Aside0.mk (Own.grown V_18.out hg AP_V_X2.out)
        have G_19 := Aside0.mk (Own.grown G_18.out hg AP_X2_G.out.symm)
        have X2_19 := Aside0.mk ho
        clear ho hg
        clear y00 y01 y02
        obtain ⟨y00, y01, y02⟩ := HY0.out _ HB19.out
        go_wp2_with fail
        refine (eqInt64S_c XG XV dG dV R R _ G_19.out.reads V_19.out.reads).mono ?_; rintro _ w20_ ⟨rfl, hb⟩
        have HB20 := Aside0.mk (bstep HB19.out hb)
        have V_20 := Aside0.mk (Own.below V_19.out hb)
        have G_20 := Aside0.mk (Own.below G_19.out hb)
        clear y00 y01 y02
        obtain ⟨y00, y01, y02⟩ := HY0.out _ HB20.out
        clear hb
        go_wp2_with fail
        refine (markInt64S_c XG dG R (1) W0_ _ G_20.out (by omega) (by omega) (by first | exact hRL | omega)).mono ?_; rintro _ w21_ ⟨rfl, ho, hg⟩
        have HB21 := Aside0.mk (Own.mark G_20.out HB20.out hg)
        have V_21 := Aside0.mk (Own.grown V_20.out hg AP_V_G.out)
        have G_21 := Aside0.mk ho
        clear ho hg
        clear y00 y01 y02
        obtain ⟨y00, y01, y02⟩ := HY0.out _ HB21.out
        go_wp2_with fail
        refine (heldInt64S_c XG dG R.length 1 _ (heldCI G_21.out) (by omega) (by omega) hRL).mono ?_; rintro _ w22_ ⟨rfl, rfl⟩
        go_wp2_with fail
        refine (toCase_c k0 A0 c0 _ (Kd.C_below HL0.out (HW.out.trans (HB21.out.mono HW.out.size))) HN0.out).mono ?_; rintro _ w22_ ⟨_, rfl, hb, XU0, dU0, rfl, hv⟩
        have HB22 := Aside0.mk (bstep HB21.out hb)
        have V_22 := Aside0.mk (Own.below V_21.out hb)
        have G_22 := Aside0.mk (Own.below G_21.out hb)
        clear y00 y01 y02
        obtain ⟨y00, y01, y02⟩ := HY0.out _ HB22.out
        have U0 := Aside0.mk (Own.mk' (w0 := W0_) (kInt_E _) hv HB21.out.size)
        clear hb hv
        have ldU0 := (Kd.R_reads' U0.out).2.1
        simp only [Cs.val]
        go_wp2_with fail
        refine (toBookS_c A1 c1 L1 _ (Kd.C_below HL1.out (HW.out.trans (HB22.out.mono HW.out.size))) HN1.out).mono ?_; rintro _ w23_ ⟨v, rfl, hb, hv⟩
        have HB23 := Aside0.mk (bstep HB22.out hb)
        have V_23 := Aside0.mk (Own.below V_22.out hb)
        have G_23 := Aside0.mk (Own.below G_22.out hb)
        have U0_23 := Aside0.mk (Own.below U0.out hb)
        clear y00 y01 y02
        obtain ⟨y00, y01, y02⟩ := HY0.out _ HB23.out
        have U1 := Aside0.mk (Own.mk' (w0 := W0_) kBk_E hv HB22.out.size)
        clear hb hv
        obtain ⟨XU1, dU1, rfl, ldU1⟩ := U1.out.open
        go_wp2_with fail
        refine (toInt64S_c A2 c2 L2 _ (Kd.C_below HL2.out (HW.out.trans (HB23.out.mono HW.out.size))) HN2.out).mono ?_; rintro _ w24_ ⟨v, rfl, hb, hv⟩
        have HB24 := Aside0.mk (bstep HB23.out hb)
        have V_24 := Aside0.mk (Own.below V_23.out hb)
        have G_24 := Aside0.mk (Own.below G_23.out hb)
        have U0_24 := Aside0.mk (Own.below U0_23.out hb)
        have U1_24 := Aside0.mk (Own.below U1.out hb)
        clear y00 y01 y02
        obtain ⟨y00, y01, y02⟩ := HY0.out _ HB24.out
        have U2 := Aside0.mk (Own.mk' (w0 := W0_) (kInt_E _) hv HB23.out.size)
        clear hb hv
        obtain ⟨XU2, dU2, rfl, ldU2⟩ := U2.out.open
        go_wp2_with fail
        refine (HIM.out XU0 dU0 ldU0 XU1 dU1 ldU1 XU2 dU2 ldU2 _ (U0_24.out.reads) (U1_24.out.reads) (U2.out.reads)).mono ?_; rintro _ w25_ ⟨v', rfl, hb, v, rfl, hv⟩
        have HB25 := Aside0.mk (bstep HB24.out hb)
        have V_25 := Aside0.mk (Own.below V_24.out hb)
        have G_25 := Aside0.mk (Own.below G_24.out hb)
        have U0_25 := Aside0.mk (Own.below U0_24.out hb)
        have U1_25 := Aside0.mk (Own.below U1_24.out hb)
        have U2_25 := Aside0.mk (Own.below U2.out hb)
        clear y00 y01 y02
        obtain ⟨y00, y01, y02⟩ := HY0.out _ HB25.out
        have H := Aside0.mk (Own.mk' (w0 := W0_) (kInt_E _) hv HB24.out.size)
        clear hb hv
        obtain ⟨XH, dH, rfl, ldH⟩ := H.out.open
        go_wp2_with fail
        refine (eqInt64S_c XH XV dH dV R R _ H.out.reads V_25.out.reads).mono ?_; rintro _ w26_ ⟨rfl, hb⟩
        have HB26 := Aside0.mk (bstep HB25.out hb)
        have V_26 := Aside0.mk (Own.below V_25.out hb)
        have G_26 := Aside0.mk (Own.below G_25.out hb)
        have H_26 := Aside0.mk (Own.below H.out hb)
        clear y00 y01 y02
        obtain ⟨y00, y01, y02⟩ := HY0.out _ HB26.out
        clear hb
        go_wp2_with fail
        refine (heldInt64S_c XG dG R.length 1 _ (heldCI G_26.out) (by omega) (by omega) hRL).mono ?_; rintro _ w27_ ⟨rfl, rfl⟩
        go_wp2_with fail
        go_ret
        exact ⟨rfl, (HW.out.trans (HB26.out.mono HW.out.size))⟩
end Go.Proofs.Ytdippdkneeocfaa
