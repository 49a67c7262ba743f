/- The law FnExactProvedCost returns true of every input. -/
import Derived.Test.YtdippdkneeocfaaChk
import Derived.Test.YtdippdkneeocfaaTabL
import Derived.Test.YtdippdkneeocfaaToS
import Derived.Test.YtdippdkneeocfaaEq
import Derived.Deep.RegionHeld3
namespace Go.Proofs.Ytdippdkneeocfaa
open Go.RowKit Go.Proofs.YtdippdkneeocfaaW.PrintWords Go.Proofs.YtdippdkneeocfaaW.PrintMore
set_option linter.unusedVariables false
set_option linter.unusedSimpArgs false
set_option maxRecDepth 100000

set_option maxHeartbeats 8000000 in
theorem FnExactProvedCost_c {w : World} (k0 : Cs) (A0 : Option Addr) (c0 : Nat) (hlc0 : k0.hs.length ≤ c0) (hL0 : (Kd.int .i16).C w A0 k0.hs.length k0.hs) (hok0 : k0.ok) (A1 : Option Addr) (c1 : Nat) (L1 : List Bk) (hlc1 : L1.length ≤ c1) (hL1 : kBk.C w A1 L1.length L1) (hok1 : OkL L1) (A2 : Option Addr) (c2 : Nat) (L2 : List (List Int)) (hlc2 : L2.length ≤ c2) (hL2 : kT.C w A2 L2.length L2) (hok2 : OkT L2) :
    Calls Try.prog 20 #[k0.val A0 c0, .slice A1 L1.length c1, .slice A2 L2.length c2] w (Ret w (.bool true)) := by
  have hr0 := Kd.C_max hL0
  have HR0 := Aside0.mk hr0
  have HL0 := Aside0.mk hL0
  have HO0 := Aside0.mk hok0
  clear hL0 hok0 hr0
  have hr1 := Kd.C_max hL1
  have HR1 := Aside0.mk hr1
  have HL1 := Aside0.mk hL1
  have HO1 := Aside0.mk hok1
  clear hL1 hok1 hr1
  have hr2 := Kd.C_max hL2
  have HR2 := Aside0.mk hr2
  have HL2 := Aside0.mk hL2
  have HO2 := Aside0.mk hok2
  clear hL2 hok2 hr2
  have HW := Aside0.mk (show Below w.heap.size w (w.alloc (.cells #[.int .i16 k0.wd, .int .i32 k0.ld, .slice A0 k0.hs.length c0] 48)) from (balloc (Below.refl _ _) _))
  have hy0 : CsAt (w.alloc (.cells #[.int .i16 k0.wd, .int .i32 k0.ld, .slice A0 k0.hs.length c0] 48)) ⟨w.heap.size, 0, none⟩ k0 A0 c0 := CsAt.box w k0 A0 c0 48
  try simp only [World.size_alloc] at hy0
  have HYC0 := Aside0.mk hy0
  clear hy0
  have HY0 := Aside0.mk (show ∀ W, Below ((w.alloc (.cells #[.int .i16 k0.wd, .int .i32 k0.ld, .slice A0 k0.hs.length c0] 48))).heap.size (w.alloc (.cells #[.int .i16 k0.wd, .int .i32 k0.ld, .slice A0 k0.hs.length c0] 48)) W → CsAt W ⟨w.heap.size, 0, none⟩ k0 A0 c0 from fun W h => HYC0.out.below h)
  have HB0 := Aside0.mk (Below.refl ((w.alloc (.cells #[.int .i16 k0.wd, .int .i32 k0.ld, .slice A0 k0.hs.length c0] 48))).heap.size (w.alloc (.cells #[.int .i16 k0.wd, .int .i32 k0.ld, .slice A0 k0.hs.length c0] 48)))
  by_cases hlt0 : (1048576 : Int) < (k0.hs.length : Int)
  · skip
    obtain ⟨y00, y01, y02⟩ := HYC0.out
    simp only [Cs.val]
    go_enter Try.func20, Try.ntmps20
    go_wp2_with fail
    clear HYC0
    generalize HW0E : World.alloc w _ = W0_ at HW HB0 HY0 y00 y01 y02 ⊢
    clear HW0E
    refine (szCase_lt k0 A0 c0 _ _ HR0.out (by omega) (by omega) (by omega)).mono ?_; rintro _ w1_ ⟨rfl, hb⟩
    have HB1 := Aside0.mk (bstep HB0.out hb)
    clear hb
    clear y00 y01 y02
    obtain ⟨y00, y01, y02⟩ := HY0.out _ HB1.out
    go_wp2_with fail
    go_ret
    exact ⟨rfl, HW.out.trans (HB1.out.mono HW.out.size)⟩
  · have hle0 : (k0.hs.length : Int) ≤ (1048576 : Int) := by omega
    by_cases hlt1 : ((1048576 : Int) - (k0.hs.length : Int)) < (L1.length : Int)
    · skip
      obtain ⟨y00, y01, y02⟩ := HYC0.out
      simp only [Cs.val]
      go_enter Try.func20, Try.ntmps20
      go_wp2_with fail
      clear HYC0
      generalize HW0E : World.alloc w _ = W0_ at HW HB0 HY0 y00 y01 y02 ⊢
      clear HW0E
      refine (szCase_ge k0 A0 c0 _ _ HR0.out (by omega) (by omega) (by omega)).mono ?_; rintro _ w1_ ⟨rfl, hb⟩
      have HB1 := Aside0.mk (bstep HB0.out hb)
      clear hb
      clear y00 y01 y02
      obtain ⟨y00, y01, y02⟩ := HY0.out _ HB1.out
      go_wp2_with fail
      refine (szBookS_lt A1 c1 _ _ _ HR1.out (by omega) (by omega) (by omega)).mono ?_; rintro _ w0_ ⟨rfl, rfl⟩
      go_wp2_with fail
      go_ret
      exact ⟨rfl, HW.out.trans (HB1.out.mono HW.out.size)⟩
    · have hle1 : (L1.length : Int) ≤ ((1048576 : Int) - (k0.hs.length : Int)) := by omega
      by_cases hlt2 : (((1048576 : Int) - (k0.hs.length : Int)) - (L1.length : Int)) < (tSize L2 : Int)
      · skip
        obtain ⟨y00, y01, y02⟩ := HYC0.out
        simp only [Cs.val]
        go_enter Try.func20, Try.ntmps20
        go_wp2_with fail
        clear HYC0
        generalize HW0E : World.alloc w _ = W0_ at HW HB0 HY0 y00 y01 y02 ⊢
        clear HW0E
        refine (szCase_ge k0 A0 c0 _ _ HR0.out (by omega) (by omega) (by omega)).mono ?_; rintro _ w1_ ⟨rfl, hb⟩
        have HB1 := Aside0.mk (bstep HB0.out hb)
        clear hb
        clear y00 y01 y02
        obtain ⟨y00, y01, y02⟩ := HY0.out _ HB1.out
        go_wp2_with fail
        refine (szBookS_ge A1 c1 _ _ _ HR1.out (by omega) (by omega) (by omega)).mono ?_; rintro _ w0_ ⟨rfl, rfl⟩
        go_wp2_with fail
        refine (szT_lt A2 c2 L2 _ _ (by omega) (by omega) (Kd.C_below HL2.out (HW.out.trans (HB1.out.mono HW.out.size))) (by omega)).mono ?_; rintro _ w0_ ⟨rfl, rfl⟩
        go_wp2_with fail
        go_ret
        exact ⟨rfl, HW.out.trans (HB1.out.mono HW.out.size)⟩
      · have hle2 : (tSize L2 : Int) ≤ (((1048576 : Int) - (k0.hs.length : Int)) - (L1.length : Int)) := by omega
        have hts2 := tSize_len L2
        have HNR2 := Aside0.mk (show ∀ r, r ∈ L2 → r.length ≤ 2097152 from fun r hr => by have := tSize_row L2 r hr; omega)
        have HN0 := Aside0.mk (show k0.hs.length ≤ 2097152 by omega)
        have HN1 := Aside0.mk (show L1.length ≤ 2097152 by omega)
        have HN2 := Aside0.mk (show L2.length ≤ 2097152 by omega)
        have HSP := Aside0.mk (fun (X0 : Option Addr) (d0 : Nat) (l0 : k0.hs.length ≤ d0) (X1 : Option Addr) (d1 : Nat) (l1 : L1.length ≤ d1) (X2 : Option Addr) (d2 : Nat) (l2 : L2.length ≤ d2) (W : World) (h0 : (Kd.int .i16).C W X0 k0.hs.length k0.hs) (h1 : kBk.C W X1 L1.length L1) (h2 : kT.C W X2 L2.length L2) => specProvedCost_c k0 X0 d0 X1 d1 L1 X2 d2 L2 HO0.out HO1.out HO2.out l1 W h0 h1 h2)
        have HIM := Aside0.mk (fun (X0 : Option Addr) (d0 : Nat) (l0 : k0.hs.length ≤ d0) (X1 : Option Addr) (d1 : Nat) (l1 : L1.length ≤ d1) (X2 : Option Addr) (d2 : Nat) (l2 : L2.length ≤ d2) (W : World) (h0 : (Kd.int .i16).C W X0 k0.hs.length k0.hs) (h1 : kBk.C W X1 L1.length L1) (h2 : kT.C W X2 L2.length L2) => ProvedCost_c k0 X0 d0 X1 d1 L1 X2 d2 L2 HO0.out HO1.out HO2.out l1 W h0 h1 h2)
        simp only [Cs.val] at HSP HIM
        have hle0_ := HN0.out
        have hle1_ := HN1.out
        have hle2_ := HN2.out
        obtain ⟨y00, y01, y02⟩ := HYC0.out
        simp only [Cs.val]
        go_enter Try.func20, Try.ntmps20
        go_wp2_with fail
        clear HYC0
        generalize HW0E : World.alloc w _ = W0_ at HW HB0 HY0 y00 y01 y02 ⊢
        clear HW0E
        refine (szCase_ge k0 A0 c0 _ _ HR0.out (by omega) (by omega) (by omega)).mono ?_; rintro _ w1_ ⟨rfl, hb⟩
        have HB1 := Aside0.mk (bstep HB0.out hb)
        clear hb
        clear y00 y01 y02
        obtain ⟨y00, y01, y02⟩ := HY0.out _ HB1.out
        go_wp2_with fail
        refine (szBookS_ge A1 c1 _ _ _ HR1.out (by omega) (by omega) (by omega)).mono ?_; rintro _ w0_ ⟨rfl, rfl⟩
        go_wp2_with fail
        refine (szT_ge A2 c2 L2 _ _ (by omega) (by omega) (Kd.C_below HL2.out (HW.out.trans (HB1.out.mono HW.out.size))) (by omega)).mono ?_; rintro _ w0_ ⟨rfl, rfl⟩
        go_wp2_with fail
        refine (toCase_c k0 A0 c0 _ (Kd.C_below HL0.out (HW.out.trans (HB1.out.mono HW.out.size))) HN0.out).mono ?_; rintro _ w2_ ⟨_, rfl, hb, XS0, dS0, rfl, hv⟩
        have HB2 := Aside0.mk (bstep HB1.out hb)
        clear y00 y01 y02
        obtain ⟨y00, y01, y02⟩ := HY0.out _ HB2.out
        have S0 := Aside0.mk (Own.mk' (w0 := W0_) (kInt_E _) hv HB1.out.size)
        clear hb hv
        have ldS0 := (Kd.R_reads' S0.out).2.1
        simp only [Cs.val]
        go_wp2_with fail
        refine (toBookS_c A1 c1 L1 _ (Kd.C_below HL1.out (HW.out.trans (HB2.out.mono HW.out.size))) HN1.out).mono ?_; rintro _ w3_ ⟨v, rfl, hb, hv⟩
        have HB3 := Aside0.mk (bstep HB2.out hb)
        have S0_3 := Aside0.mk (Own.below S0.out hb)
        clear y00 y01 y02
        obtain ⟨y00, y01, y02⟩ := HY0.out _ HB3.out
        have S1 := Aside0.mk (Own.mk' (w0 := W0_) kBk_E hv HB2.out.size)
        clear hb hv
        obtain ⟨XS1, dS1, rfl, ldS1⟩ := S1.out.open
        go_wp2_with fail
        refine (toInt64SS_c A2 c2 L2 _ (Kd.C_below HL2.out (HW.out.trans (HB3.out.mono HW.out.size))) HN2.out HNR2.out).mono ?_; rintro _ w4_ ⟨v, rfl, hb, hv⟩
        have HB4 := Aside0.mk (bstep HB3.out hb)
        have S0_4 := Aside0.mk (Own.below S0_3.out hb)
        have S1_4 := Aside0.mk (Own.below S1.out hb)
        clear y00 y01 y02
        obtain ⟨y00, y01, y02⟩ := HY0.out _ HB4.out
        obtain ⟨XS2, dS2, rfl, ldS2, hct⟩ := hv
        have S2 := Aside0.mk hct
        clear hb hct
        go_wp2_with fail
        refine (HSP.out XS0 dS0 ldS0 XS1 dS1 ldS1 XS2 dS2 ldS2 _ (S0_4.out.reads) (S1_4.out.reads) S2.out).mono ?_; rintro _ w5_ ⟨rfl, hb⟩
        have HB5 := Aside0.mk (bstep HB4.out hb)
        have S0_5 := Aside0.mk (Own.below S0_4.out hb)
        have S1_5 := Aside0.mk (Own.below S1_4.out hb)
        have S2_5 := Aside0.mk (Kd.C_below S2.out hb)
        clear y00 y01 y02
        obtain ⟨y00, y01, y02⟩ := HY0.out _ HB5.out
        clear hb
        go_wp2_with fail
        refine (toCase_c k0 A0 c0 _ (Kd.C_below HL0.out (HW.out.trans (HB5.out.mono HW.out.size))) HN0.out).mono ?_; rintro _ w6_ ⟨_, rfl, hb, XX0, dX0, rfl, hv⟩
        have HB6 := Aside0.mk (bstep HB5.out hb)
        clear y00 y01 y02
        obtain ⟨y00, y01, y02⟩ := HY0.out _ HB6.out
        have X0 := Aside0.mk (Own.mk' (w0 := W0_) (kInt_E _) hv HB5.out.size)
        clear hb hv
        have ldX0 := (Kd.R_reads' X0.out).2.1
        simp only [Cs.val]
        clear y00 y01 y02
        have HBA := Aside0.mk (show Below W0_.heap.size W0_ (World.alloc w6_ (.cells #[.int .i16 k0.wd, .int .i32 k0.ld, .slice XX0 k0.hs.length dX0] 51)) from balloc HB6.out _)
        obtain ⟨y00, y01, y02⟩ := HY0.out _ HBA.out
        go_wp2_with fail
        have hbx : CsAt (World.alloc w6_ (.cells #[.int .i16 k0.wd, .int .i32 k0.ld, .slice XX0 k0.hs.length dX0] 51)) ⟨w6_.heap.size, 0, none⟩ k0 XX0 dX0 := CsAt.box w6_ k0 XX0 dX0 51
        have hb : Below w6_.heap.size w6_ (World.alloc w6_ (.cells #[.int .i16 k0.wd, .int .i32 k0.ld, .slice XX0 k0.hs.length dX0] 51)) := balloc (Below.refl _ _) _
        clear y00 y01 y02
        clear HBA 
        obtain ⟨y00, y01, y02⟩ := HY0.out _ HB6.out
        generalize hWX : World.alloc w6_ _ = w7_ at hbx hb ⊢
        clear hWX
        have HB7 := Aside0.mk (bstep HB6.out hb)
        have X0_7 := Aside0.mk (Own.below X0.out hb)
        have HZ0_7 := Aside0.mk hbx
        clear hbx hb
        clear y00 y01 y02
        obtain ⟨y00, y01, y02⟩ := HY0.out _ HB7.out
        obtain ⟨z00, z01, z02⟩ := HZ0_7.out
        refine (toBookS_c A1 c1 L1 _ (Kd.C_below HL1.out (HW.out.trans (HB7.out.mono HW.out.size))) HN1.out).mono ?_; rintro _ w8_ ⟨v, rfl, hb, hv⟩
        have HB8 := Aside0.mk (bstep HB7.out hb)
        have X0_8 := Aside0.mk (Own.below X0_7.out hb)
        have HZ0_8 := Aside0.mk (CsAt.below HZ0_7.out hb)
        clear y00 y01 y02
        obtain ⟨y00, y01, y02⟩ := HY0.out _ HB8.out
        clear z00 z01 z02
        obtain ⟨z00, z01, z02⟩ := HZ0_8.out
        have X1 := Aside0.mk (Own.mk' (w0 := W0_) kBk_E hv HB7.out.size)
        have AP_X0_X1 := Aside0.mk (Apart.new X0_7.out hv)
        clear hb hv
        obtain ⟨XX1, dX1, rfl, ldX1⟩ := X1.out.open
        go_wp2_with fail
        refine (toInt64SS_c A2 c2 L2 _ (Kd.C_below HL2.out (HW.out.trans (HB8.out.mono HW.out.size))) HN2.out HNR2.out).mono ?_; rintro _ w9_ ⟨v, rfl, hb, hv⟩
        have HB9 := Aside0.mk (bstep HB8.out hb)
        have X0_9 := Aside0.mk (Own.below X0_8.out hb)
        have X1_9 := Aside0.mk (Own.below X1.out hb)
        have HZ0_9 := Aside0.mk (CsAt.below HZ0_8.out hb)
        clear y00 y01 y02
        obtain ⟨y00, y01, y02⟩ := HY0.out _ HB9.out
        clear z00 z01 z02
        obtain ⟨z00, z01, z02⟩ := HZ0_9.out
        obtain ⟨XX2, dX2, rfl, ldX2, hct⟩ := hv
        have X2 := Aside0.mk hct
        clear hb hct
        go_wp2_with fail
        refine (HIM.out XX0 dX0 ldX0 XX1 dX1 ldX1 XX2 dX2 ldX2 _ (X0_9.out.reads) (X1_9.out.reads) X2.out).mono ?_; rintro _ w10_ ⟨rfl, hb⟩
        have HB10 := Aside0.mk (bstep HB9.out hb)
        have X0_10 := Aside0.mk (Own.below X0_9.out hb)
        have X1_10 := Aside0.mk (Own.below X1_9.out hb)
        have X2_10 := Aside0.mk (Kd.C_below X2.out hb)
        have HZ0_10 := Aside0.mk (CsAt.below HZ0_9.out hb)
        clear y00 y01 y02
        obtain ⟨y00, y01, y02⟩ := HY0.out _ HB10.out
        clear z00 z01 z02
        obtain ⟨z00, z01, z02⟩ := HZ0_10.out
        clear hb
        go_wp2_with fail
        have HYB := Aside0.mk (show ∀ w', Below w10_.heap.size w10_ w' → Below w10_.heap.size w10_ w' ∧ (w'.cell? ⟨w.heap.size, 0, none⟩ = some (.int .i16 k0.wd) ∧ w'.cell? ⟨w.heap.size, 1, none⟩ = some (.int .i32 k0.ld) ∧ w'.cell? ⟨w.heap.size, 2, none⟩ = some (.slice A0 k0.hs.length c0)) ∧ (w'.cell? ⟨w6_.heap.size, 0, none⟩ = some (.int .i16 k0.wd) ∧ w'.cell? ⟨w6_.heap.size, 1, none⟩ = some (.int .i32 k0.ld) ∧ w'.cell? ⟨w6_.heap.size, 2, none⟩ = some (.slice XX0 k0.hs.length dX0)) from fun w' h => ⟨h, by obtain ⟨a0, a1, a2⟩ := HY0.out _ (bstep HB10.out h); exact ⟨a0, a1, a2⟩, by obtain ⟨a0, a1, a2⟩ := CsAt.below HZ0_10.out h; exact ⟨a0, a1, a2⟩⟩)
        have HQ0 := Aside0.mk (show ∀ w', Below w10_.heap.size w10_ w' → (Kd.int .i16).C w' A0 k0.hs.length k0.hs from fun w' h => Kd.C_below HL0.out (HW.out.trans ((bstep HB10.out h).mono HW.out.size)))
        go_region_held3 (fun w' => Below w10_.heap.size w10_ w' ∧ (w'.cell? ⟨w.heap.size, 0, none⟩ = some (.int .i16 k0.wd) ∧ w'.cell? ⟨w.heap.size, 1, none⟩ = some (.int .i32 k0.ld) ∧ w'.cell? ⟨w.heap.size, 2, none⟩ = some (.slice A0 k0.hs.length c0)) ∧ (w'.cell? ⟨w6_.heap.size, 0, none⟩ = some (.int .i16 k0.wd) ∧ w'.cell? ⟨w6_.heap.size, 1, none⟩ = some (.int .i32 k0.ld) ∧ w'.cell? ⟨w6_.heap.size, 2, none⟩ = some (.slice XX0 k0.hs.length dX0)))
          (first | exact HYB.out _ (bdrew (Below.refl _ _)) | exact HYB.out _ (bstep (And.left (by assumption)) hq1) | exact HYB.out _ (bstep (And.left (by assumption)) hq2))
          (first | (go_at_call 44; refine (toCase_c k0 A0 c0 _ (HQ0.out _ (And.left (by assumption))) HN0.out).mono ?_; rintro _ wq1 ⟨_, rfl, hq1, XQ, dQ, rfl, hvq⟩; have HVQ := Aside0.mk (Kd.R_reads' hvq).2.2; clear hvq; simp only [Cs.val]) | (go_at_call 46; refine (eqCase_c k0 k0 XX0 XQ dX0 dQ _ (Kd.C_below (Kd.C_below X0_10.out.reads (bdrew (Below.refl _ _))) hq1) HVQ.out).mono ?_; rintro _ wq2 ⟨rfl, hq2⟩))
        have hb : Below w10_.heap.size w10_ wq2 := And.left (by assumption)
        clear HYB HQ0
        clear hq1 hq2
        obtain ⟨w11_, hwn⟩ : ∃ W, W = wq2 := ⟨_, rfl⟩
        subst hwn
        have HB11 := Aside0.mk (bstep HB10.out hb)
        have X0_11 := Aside0.mk (Own.below X0_10.out hb)
        have X1_11 := Aside0.mk (Own.below X1_10.out hb)
        have X2_11 := Aside0.mk (Kd.C_below X2_10.out hb)
        have HZ0_11 := Aside0.mk (CsAt.below HZ0_10.out hb)
        clear y00 y01 y02
        obtain ⟨y00, y01, y02⟩ := HY0.out _ HB11.out
        clear z00 z01 z02
        obtain ⟨z00, z01, z02⟩ := HZ0_11.out
        clear hb
        go_wp2_with fail
        refine (toBookS_c A1 c1 L1 _ (Kd.C_below HL1.out (HW.out.trans (HB11.out.mono HW.out.size))) HN1.out).mono ?_; rintro _ w12_ ⟨v, rfl, hb, hv⟩
        have HB12 := Aside0.mk (bstep HB11.out hb)
        have X0_12 := Aside0.mk (Own.below X0_11.out hb)
        have X1_12 := Aside0.mk (Own.below X1_11.out hb)
        have X2_12 := Aside0.mk (Kd.C_below X2_11.out hb)
        have HZ0_12 := Aside0.mk (CsAt.below HZ0_11.out hb)
        clear y00 y01 y02
        obtain ⟨y00, y01, y02⟩ := HY0.out _ HB12.out
        clear z00 z01 z02
        obtain ⟨z00, z01, z02⟩ := HZ0_12.out
        have T1 := Aside0.mk (Own.mk' (w0 := W0_) kBk_E hv HB11.out.size)
        clear hb hv
        obtain ⟨XT1, dT1, rfl, ldT1⟩ := T1.out.open
        go_wp2_with fail
        refine (eqBookS_c XX1 XT1 dX1 dT1 L1 L1 _ X1_12.out.reads T1.out.reads).mono ?_; rintro _ w13_ ⟨rfl, hb⟩
        have HB13 := Aside0.mk (bstep HB12.out hb)
        have X0_13 := Aside0.mk (Own.below X0_12.out hb)
        have X1_13 := Aside0.mk (Own.below X1_12.out hb)
        have X2_13 := Aside0.mk (Kd.C_below X2_12.out hb)
        have T1_13 := Aside0.mk (Own.below T1.out hb)
        have HZ0_13 := Aside0.mk (CsAt.below HZ0_12.out hb)
        clear y00 y01 y02
        obtain ⟨y00, y01, y02⟩ := HY0.out _ HB13.out
        clear z00 z01 z02
        obtain ⟨z00, z01, z02⟩ := HZ0_13.out
        clear hb
        go_wp2_with fail
        refine (toInt64SS_c A2 c2 L2 _ (Kd.C_below HL2.out (HW.out.trans (HB13.out.mono HW.out.size))) HN2.out HNR2.out).mono ?_; rintro _ w14_ ⟨v, rfl, hb, hv⟩
        have HB14 := Aside0.mk (bstep HB13.out hb)
        have X0_14 := Aside0.mk (Own.below X0_13.out hb)
        have X1_14 := Aside0.mk (Own.below X1_13.out hb)
        have X2_14 := Aside0.mk (Kd.C_below X2_13.out hb)
        have HZ0_14 := Aside0.mk (CsAt.below HZ0_13.out hb)
        clear y00 y01 y02
        obtain ⟨y00, y01, y02⟩ := HY0.out _ HB14.out
        clear z00 z01 z02
        obtain ⟨z00, z01, z02⟩ := HZ0_14.out
        obtain ⟨XT2, dT2, rfl, ldT2, hct⟩ := hv
        have T2 := Aside0.mk hct
        clear hb hct
        go_wp2_with fail
        refine (eqInt64SS_c XX2 XT2 dX2 dT2 L2 L2 _ X2_14.out T2.out).mono ?_; rintro _ w15_ ⟨rfl, hb⟩
        have HB15 := Aside0.mk (bstep HB14.out hb)
        have X0_15 := Aside0.mk (Own.below X0_14.out hb)
        have X1_15 := Aside0.mk (Own.below X1_14.out hb)
        have X2_15 := Aside0.mk (Kd.C_below X2_14.out hb)
        have T2_15 := Aside0.mk (Kd.C_below T2.out hb)
        have HZ0_15 := Aside0.mk (CsAt.below HZ0_14.out hb)
        clear y00 y01 y02
        obtain ⟨y00, y01, y02⟩ := HY0.out _ HB15.out
        clear z00 z01 z02
        obtain ⟨z00, z01, z02⟩ := HZ0_15.out
        clear hb
        go_wp2_with fail
        go_ret
        exact ⟨rfl, (HW.out.trans (HB15.out.mono HW.out.size))⟩
end Go.Proofs.Ytdippdkneeocfaa
