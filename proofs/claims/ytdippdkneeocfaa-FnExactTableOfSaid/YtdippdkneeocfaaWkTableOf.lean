/- The law FnExactTableOf returns true of every input. -/
import Derived.Test.YtdippdkneeocfaaBestL
import Derived.Test.YtdippdkneeocfaaMarkT
import Derived.Test.YtdippdkneeocfaaToS
import Derived.Test.YtdippdkneeocfaaEq
import Derived.Deep.RegionHeld3
namespace Go.Proofs.Ytdippdkneeocfaa
open Go.RowKit Go.Proofs.YtdippdkneeocfaaW.PrintWords Go.Proofs.YtdippdkneeocfaaW.PrintMore
set_option linter.unusedVariables false
set_option linter.unusedSimpArgs false
set_option maxRecDepth 100000

set_option maxHeartbeats 8000000 in
theorem FnExactTableOf_c {w : World} (k0 : Cs) (A0 : Option Addr) (c0 : Nat) (hlc0 : k0.hs.length ≤ c0) (hL0 : (Kd.int .i16).C w A0 k0.hs.length k0.hs) (hok0 : k0.ok) (A1 : Option Addr) (c1 : Nat) (L1 : List Bk) (hlc1 : L1.length ≤ c1) (hL1 : kBk.C w A1 L1.length L1) (hok1 : OkL L1) :
    Calls Try.prog 22 #[k0.val A0 c0, .slice A1 L1.length c1] w (Ret w (.bool true)) := by
  have hr0 := Kd.C_max hL0
  have HR0 := Aside0.mk hr0
  have HL0 := Aside0.mk hL0
  have HO0 := Aside0.mk hok0
  clear hL0 hok0 hr0
  have hr1 := Kd.C_max hL1
  have HR1 := Aside0.mk hr1
  have HL1 := Aside0.mk hL1
  have HO1 := Aside0.mk hok1
  clear hL1 hok1 hr1
  have HW := Aside0.mk (show Below w.heap.size w (w.alloc (.cells #[.int .i16 k0.wd, .int .i32 k0.ld, .slice A0 k0.hs.length c0] 48)) from (balloc (Below.refl _ _) _))
  have hy0 : CsAt (w.alloc (.cells #[.int .i16 k0.wd, .int .i32 k0.ld, .slice A0 k0.hs.length c0] 48)) ⟨w.heap.size, 0, none⟩ k0 A0 c0 := CsAt.box w k0 A0 c0 48
  try simp only [World.size_alloc] at hy0
  have HYC0 := Aside0.mk hy0
  clear hy0
  have HY0 := Aside0.mk (show ∀ W, Below ((w.alloc (.cells #[.int .i16 k0.wd, .int .i32 k0.ld, .slice A0 k0.hs.length c0] 48))).heap.size (w.alloc (.cells #[.int .i16 k0.wd, .int .i32 k0.ld, .slice A0 k0.hs.length c0] 48)) W → CsAt W ⟨w.heap.size, 0, none⟩ k0 A0 c0 from fun W h => HYC0.out.below h)
  have HB0 := Aside0.mk (Below.refl ((w.alloc (.cells #[.int .i16 k0.wd, .int .i32 k0.ld, .slice A0 k0.hs.length c0] 48))).heap.size (w.alloc (.cells #[.int .i16 k0.wd, .int .i32 k0.ld, .slice A0 k0.hs.length c0] 48)))
  by_cases hlt0 : (1048576 : Int) < (k0.hs.length : Int)
  · skip
    obtain ⟨y00, y01, y02⟩ := HYC0.out
    simp only [Cs.val]
    go_enter Try.func22, Try.ntmps22
    go_wp2_with fail
    clear HYC0
    generalize HW0E : World.alloc w _ = W0_ at HW HB0 HY0 y00 y01 y02 ⊢
    clear HW0E
    refine (szCase_lt k0 A0 c0 _ _ HR0.out (by omega) (by omega) (by omega)).mono ?_; rintro _ w1_ ⟨rfl, hb⟩
    have HB1 := Aside0.mk (bstep HB0.out hb)
    clear hb
    clear y00 y01 y02
    obtain ⟨y00, y01, y02⟩ := HY0.out _ HB1.out
    go_wp2_with fail
    go_ret
    exact ⟨rfl, HW.out.trans (HB1.out.mono HW.out.size)⟩
  · have hle0 : (k0.hs.length : Int) ≤ (1048576 : Int) := by omega
    by_cases hlt1 : ((1048576 : Int) - (k0.hs.length : Int)) < (L1.length : Int)
    · skip
      obtain ⟨y00, y01, y02⟩ := HYC0.out
      simp only [Cs.val]
      go_enter Try.func22, Try.ntmps22
      go_wp2_with fail
      clear HYC0
      generalize HW0E : World.alloc w _ = W0_ at HW HB0 HY0 y00 y01 y02 ⊢
      clear HW0E
      refine (szCase_ge k0 A0 c0 _ _ HR0.out (by omega) (by omega) (by omega)).mono ?_; rintro _ w1_ ⟨rfl, hb⟩
      have HB1 := Aside0.mk (bstep HB0.out hb)
      clear hb
      clear y00 y01 y02
      obtain ⟨y00, y01, y02⟩ := HY0.out _ HB1.out
      go_wp2_with fail
      refine (szBookS_lt A1 c1 _ _ _ HR1.out (by omega) (by omega) (by omega)).mono ?_; rintro _ w0_ ⟨rfl, rfl⟩
      go_wp2_with fail
      go_ret
      exact ⟨rfl, HW.out.trans (HB1.out.mono HW.out.size)⟩
    · have hle1 : (L1.length : Int) ≤ ((1048576 : Int) - (k0.hs.length : Int)) := by omega
      have HN0 := Aside0.mk (show k0.hs.length ≤ 2097152 by omega)
      have HN1 := Aside0.mk (show L1.length ≤ 2097152 by omega)
      have HSP := Aside0.mk (fun (X0 : Option Addr) (d0 : Nat) (l0 : k0.hs.length ≤ d0) (X1 : Option Addr) (d1 : Nat) (l1 : L1.length ≤ d1) (W : World) (h0 : (Kd.int .i16).C W X0 k0.hs.length k0.hs) (h1 : kBk.C W X1 L1.length L1) => specTableOf_c k0 X0 d0 X1 d1 L1 HO0.out HO1.out l1 W h0 h1)
      have HIM := Aside0.mk (fun (X0 : Option Addr) (d0 : Nat) (l0 : k0.hs.length ≤ d0) (X1 : Option Addr) (d1 : Nat) (l1 : L1.length ≤ d1) (W : World) (h0 : (Kd.int .i16).C W X0 k0.hs.length k0.hs) (h1 : kBk.C W X1 L1.length L1) => TableOf_c k0 X0 d0 X1 d1 L1 HO0.out HO1.out l1 W h0 h1)
      simp only [Cs.val] at HSP HIM
      have HRL := Aside0.mk (show (toV k0 L1).length ≤ 2097152 from Nat.le_trans (toV_sz k0 L1).1 (by omega))
      have HRS := Aside0.mk (show 1 + (rowsN (toV k0 L1) (toV k0 L1).length : Int) ≤ 1000000000 from (by have h1 := (toV_sz k0 L1).1; have h2 := rowsN_le (toV_sz k0 L1).2 (toV k0 L1).length; omega))
      have HRW := Aside0.mk (show ∀ r, r ∈ toV k0 L1 → r.length ≤ 2097152 from (fun r hr => Nat.le_trans ((toV_sz k0 L1).2 r hr) (by omega)))
      obtain ⟨R, hR⟩ : ∃ R, toV k0 L1 = R := ⟨_, rfl⟩
      rw [hR] at HSP HIM HRL HRS HRW
      clear hR
      obtain ⟨e0, he0⟩ : ∃ e, eCL k0 L1 = e := ⟨_, rfl⟩
      rw [he0] at HSP HIM
      clear he0
      have hRL := HRL.out
      have hle0_ := HN0.out
      have hle1_ := HN1.out
      obtain ⟨y00, y01, y02⟩ := HYC0.out
      simp only [Cs.val]
      go_enter Try.func22, Try.ntmps22
      go_wp2_with fail
      clear HYC0
      generalize HW0E : World.alloc w _ = W0_ at HW HB0 HY0 y00 y01 y02 ⊢
      clear HW0E
      refine (szCase_ge k0 A0 c0 _ _ HR0.out (by omega) (by omega) (by omega)).mono ?_; rintro _ w1_ ⟨rfl, hb⟩
      have HB1 := Aside0.mk (bstep HB0.out hb)
      clear hb
      clear y00 y01 y02
      obtain ⟨y00, y01, y02⟩ := HY0.out _ HB1.out
      go_wp2_with fail
      refine (szBookS_ge A1 c1 _ _ _ HR1.out (by omega) (by omega) (by omega)).mono ?_; rintro _ w0_ ⟨rfl, rfl⟩
      go_wp2_with fail
      refine (toCase_c k0 A0 c0 _ (Kd.C_below HL0.out (HW.out.trans (HB1.out.mono HW.out.size))) HN0.out).mono ?_; rintro _ w2_ ⟨_, rfl, hb, XS0, dS0, rfl, hv⟩
      have HB2 := Aside0.mk (bstep HB1.out hb)
      clear y00 y01 y02
      obtain ⟨y00, y01, y02⟩ := HY0.out _ HB2.out
      have S0 := Aside0.mk (Own.mk' (w0 := W0_) (kInt_E _) hv HB1.out.size)
      clear hb hv
      have ldS0 := (Kd.R_reads' S0.out).2.1
      simp only [Cs.val]
      go_wp2_with fail
      refine (toBookS_c A1 c1 L1 _ (Kd.C_below HL1.out (HW.out.trans (HB2.out.mono HW.out.size))) HN1.out).mono ?_; rintro _ w3_ ⟨v, rfl, hb, hv⟩
      have HB3 := Aside0.mk (bstep HB2.out hb)
      have S0_3 := Aside0.mk (Own.below S0.out hb)
      clear y00 y01 y02
      obtain ⟨y00, y01, y02⟩ := HY0.out _ HB3.out
      have S1 := Aside0.mk (Own.mk' (w0 := W0_) kBk_E hv HB2.out.size)
      clear hb hv
      obtain ⟨XS1, dS1, rfl, ldS1⟩ := S1.out.open
      go_wp2_with fail
      refine (HSP.out XS0 dS0 ldS0 XS1 dS1 ldS1 _ (S0_3.out.reads) (S1.out.reads)).mono ?_; rintro _ w4_ ⟨v', rfl, hb, v, ZV, rfl, hv⟩
      have HB4 := Aside0.mk (bstep HB3.out hb)
      have S0_4 := Aside0.mk (Own.below S0_3.out hb)
      have S1_4 := Aside0.mk (Own.below S1.out hb)
      clear y00 y01 y02
      obtain ⟨y00, y01, y02⟩ := HY0.out _ HB4.out
      have V := Aside0.mk hv
      clear hb hv
      obtain ⟨XV, dV, rfl, ldV⟩ := V.out.open
      have BV4 := Aside0.mk (Below.refl w4_.heap.size w4_)
      go_wp2_with fail
      refine (toCase_c k0 A0 c0 _ (Kd.C_below HL0.out (HW.out.trans (HB4.out.mono HW.out.size))) HN0.out).mono ?_; rintro _ w5_ ⟨_, rfl, hb, XX0, dX0, rfl, hv⟩
      have HB5 := Aside0.mk (bstep HB4.out hb)
      have BV5 := Aside0.mk (bstep BV4.out hb)
      clear y00 y01 y02
      obtain ⟨y00, y01, y02⟩ := HY0.out _ HB5.out
      have X0 := Aside0.mk (Own.mk' (w0 := w4_) (kInt_E _) hv BV4.out.size)
      clear hb hv
      have ldX0 := (Kd.R_reads' X0.out).2.1
      simp only [Cs.val]
      clear y00 y01 y02
      have HBA := Aside0.mk (show Below W0_.heap.size W0_ (World.alloc w5_ (.cells #[.int .i16 k0.wd, .int .i32 k0.ld, .slice XX0 k0.hs.length dX0] 51)) from balloc HB5.out _)
      obtain ⟨y00, y01, y02⟩ := HY0.out _ HBA.out
      go_wp2_with fail
      have hbx : CsAt (World.alloc w5_ (.cells #[.int .i16 k0.wd, .int .i32 k0.ld, .slice XX0 k0.hs.length dX0] 51)) ⟨w5_.heap.size, 0, none⟩ k0 XX0 dX0 := CsAt.box w5_ k0 XX0 dX0 51
      have hb : Below w5_.heap.size w5_ (World.alloc w5_ (.cells #[.int .i16 k0.wd, .int .i32 k0.ld, .slice XX0 k0.hs.length dX0] 51)) := balloc (Below.refl _ _) _
      clear y00 y01 y02
      clear HBA 
      obtain ⟨y00, y01, y02⟩ := HY0.out _ HB5.out
      generalize hWX : World.alloc w5_ _ = w6_ at hbx hb ⊢
      clear hWX
      have HB6 := Aside0.mk (bstep HB5.out hb)
      have BV6 := Aside0.mk (bstep BV5.out hb)
      have X0_6 := Aside0.mk (Own.below X0.out hb)
      have HZ0_6 := Aside0.mk hbx
      clear hbx hb
      clear y00 y01 y02
      obtain ⟨y00, y01, y02⟩ := HY0.out _ HB6.out
      obtain ⟨z00, z01, z02⟩ := HZ0_6.out
      refine (toBookS_c A1 c1 L1 _ (Kd.C_below HL1.out (HW.out.trans (HB6.out.mono HW.out.size))) HN1.out).mono ?_; rintro _ w7_ ⟨v, rfl, hb, hv⟩
      have HB7 := Aside0.mk (bstep HB6.out hb)
      have BV7 := Aside0.mk (bstep BV6.out hb)
      have X0_7 := Aside0.mk (Own.below X0_6.out hb)
      have HZ0_7 := Aside0.mk (CsAt.below HZ0_6.out hb)
      clear y00 y01 y02
      obtain ⟨y00, y01, y02⟩ := HY0.out _ HB7.out
      clear z00 z01 z02
      obtain ⟨z00, z01, z02⟩ := HZ0_7.out
      have X1 := Aside0.mk (Own.mk' (w0 := w4_) kBk_E hv BV6.out.size)
      have AP_X0_X1 := Aside0.mk (Apart.new X0_6.out hv)
      clear hb hv
      obtain ⟨XX1, dX1, rfl, ldX1⟩ := X1.out.open
      go_wp2_with fail
      have LT_X0 := Aside0.mk (Kd.R_lt X0_7.out)
      have LT_X1 := Aside0.mk (Kd.R_lt X1.out)
      refine (HIM.out XX0 dX0 ldX0 XX1 dX1 ldX1 _ (X0_7.out.reads) (X1.out.reads)).mono ?_; rintro _ w8_ ⟨v', rfl, hb, v, ZG, rfl, hv⟩
      have HB8 := Aside0.mk (bstep HB7.out hb)
      have BV8 := Aside0.mk (bstep BV7.out hb)
      have X0_8 := Aside0.mk (Own.below X0_7.out hb)
      have X1_8 := Aside0.mk (Own.below X1.out hb)
      have HZ0_8 := Aside0.mk (CsAt.below HZ0_7.out hb)
      clear y00 y01 y02
      obtain ⟨y00, y01, y02⟩ := HY0.out _ HB8.out
      clear z00 z01 z02
      obtain ⟨z00, z01, z02⟩ := HZ0_8.out
      have GS8 := Aside0.mk hb.size
      have G := Aside0.mk hv
      clear hb hv
      obtain ⟨XG, dG, rfl, ldG⟩ := G.out.open
      go_wp2_with fail
      refine (eqInt64SS_c XG XV dG dV R R _ ((G.out).readsT rfl) ((V.out.below BV8.out).readsT rfl)).mono ?_; rintro _ w9_ ⟨rfl, hb⟩
      have HB9 := Aside0.mk (bstep HB8.out hb)
      have BV9 := Aside0.mk (bstep BV8.out hb)
      have X0_9 := Aside0.mk (Own.below X0_8.out hb)
      have X1_9 := Aside0.mk (Own.below X1_8.out hb)
      have GS9 := Aside0.mk (Nat.le_trans GS8.out (hb).size)
      have G_9 := Aside0.mk (OwnT.below G.out hb)
      have HZ0_9 := Aside0.mk (CsAt.below HZ0_8.out hb)
      clear y00 y01 y02
      obtain ⟨y00, y01, y02⟩ := HY0.out _ HB9.out
      clear z00 z01 z02
      obtain ⟨z00, z01, z02⟩ := HZ0_9.out
      clear hb
      go_wp2_with fail
      have HYB := Aside0.mk (show ∀ w', Below w9_.heap.size w9_ w' → Below w9_.heap.size w9_ w' ∧ (w'.cell? ⟨w.heap.size, 0, none⟩ = some (.int .i16 k0.wd) ∧ w'.cell? ⟨w.heap.size, 1, none⟩ = some (.int .i32 k0.ld) ∧ w'.cell? ⟨w.heap.size, 2, none⟩ = some (.slice A0 k0.hs.length c0)) ∧ (w'.cell? ⟨w5_.heap.size, 0, none⟩ = some (.int .i16 k0.wd) ∧ w'.cell? ⟨w5_.heap.size, 1, none⟩ = some (.int .i32 k0.ld) ∧ w'.cell? ⟨w5_.heap.size, 2, none⟩ = some (.slice XX0 k0.hs.length dX0)) from fun w' h => ⟨h, by obtain ⟨a0, a1, a2⟩ := HY0.out _ (bstep HB9.out h); exact ⟨a0, a1, a2⟩, by obtain ⟨a0, a1, a2⟩ := CsAt.below HZ0_9.out h; exact ⟨a0, a1, a2⟩⟩)
      have HQ0 := Aside0.mk (show ∀ w', Below w9_.heap.size w9_ w' → (Kd.int .i16).C w' A0 k0.hs.length k0.hs from fun w' h => Kd.C_below HL0.out (HW.out.trans ((bstep HB9.out h).mono HW.out.size)))
      go_region_held3 (fun w' => Below w9_.heap.size w9_ w' ∧ (w'.cell? ⟨w.heap.size, 0, none⟩ = some (.int .i16 k0.wd) ∧ w'.cell? ⟨w.heap.size, 1, none⟩ = some (.int .i32 k0.ld) ∧ w'.cell? ⟨w.heap.size, 2, none⟩ = some (.slice A0 k0.hs.length c0)) ∧ (w'.cell? ⟨w5_.heap.size, 0, none⟩ = some (.int .i16 k0.wd) ∧ w'.cell? ⟨w5_.heap.size, 1, none⟩ = some (.int .i32 k0.ld) ∧ w'.cell? ⟨w5_.heap.size, 2, none⟩ = some (.slice XX0 k0.hs.length dX0)))
        (first | exact HYB.out _ (bdrew (Below.refl _ _)) | exact HYB.out _ (bstep (And.left (by assumption)) hq1) | exact HYB.out _ (bstep (And.left (by assumption)) hq2))
        (first | (go_at_call 44; refine (toCase_c k0 A0 c0 _ (HQ0.out _ (And.left (by assumption))) HN0.out).mono ?_; rintro _ wq1 ⟨_, rfl, hq1, XQ, dQ, rfl, hvq⟩; have HVQ := Aside0.mk (Kd.R_reads' hvq).2.2; clear hvq; simp only [Cs.val]) | (go_at_call 46; refine (eqCase_c k0 k0 XX0 XQ dX0 dQ _ (Kd.C_below (Kd.C_below X0_9.out.reads (bdrew (Below.refl _ _))) hq1) HVQ.out).mono ?_; rintro _ wq2 ⟨rfl, hq2⟩))
      have hb : Below w9_.heap.size w9_ wq2 := And.left (by assumption)
      clear HYB HQ0
      clear hq1 hq2
      obtain ⟨w10_, hwn⟩ : ∃ W, W = wq2 := ⟨_, rfl⟩
      subst hwn
      have HB10 := Aside0.mk (bstep HB9.out hb)
      have BV10 := Aside0.mk (bstep BV9.out hb)
      have X0_10 := Aside0.mk (Own.below X0_9.out hb)
      have X1_10 := Aside0.mk (Own.below X1_9.out hb)
      have GS10 := Aside0.mk (Nat.le_trans GS9.out (hb).size)
      have G_10 := Aside0.mk (OwnT.below G_9.out hb)
      have HZ0_10 := Aside0.mk (CsAt.below HZ0_9.out hb)
      clear y00 y01 y02
      obtain ⟨y00, y01, y02⟩ := HY0.out _ HB10.out
      clear z00 z01 z02
      obtain ⟨z00, z01, z02⟩ := HZ0_10.out
      clear hb
      go_wp2_with fail
      refine (toBookS_c A1 c1 L1 _ (Kd.C_below HL1.out (HW.out.trans (HB10.out.mono HW.out.size))) HN1.out).mono ?_; rintro _ w11_ ⟨v, rfl, hb, hv⟩
      have HB11 := Aside0.mk (bstep HB10.out hb)
      have BV11 := Aside0.mk (bstep BV10.out hb)
      have X0_11 := Aside0.mk (Own.below X0_10.out hb)
      have X1_11 := Aside0.mk (Own.below X1_10.out hb)
      have GS11 := Aside0.mk (Nat.le_trans GS10.out (hb).size)
      have G_11 := Aside0.mk (OwnT.below G_10.out hb)
      have HZ0_11 := Aside0.mk (CsAt.below HZ0_10.out hb)
      clear y00 y01 y02
      obtain ⟨y00, y01, y02⟩ := HY0.out _ HB11.out
      clear z00 z01 z02
      obtain ⟨z00, z01, z02⟩ := HZ0_11.out
      have T1 := Aside0.mk (Own.mk' (w0 := w4_) kBk_E hv BV10.out.size)
      clear hb hv
      obtain ⟨XT1, dT1, rfl, ldT1⟩ := T1.out.open
      go_wp2_with fail
      refine (eqBookS_c XX1 XT1 dX1 dT1 L1 L1 _ X1_11.out.reads T1.out.reads).mono ?_; rintro _ w12_ ⟨rfl, hb⟩
      have HB12 := Aside0.mk (bstep HB11.out hb)
      have BV12 := Aside0.mk (bstep BV11.out hb)
      have X0_12 := Aside0.mk (Own.below X0_11.out hb)
      have X1_12 := Aside0.mk (Own.below X1_11.out hb)
      have GS12 := Aside0.mk (Nat.le_trans GS11.out (hb).size)
      have G_12 := Aside0.mk (OwnT.below G_11.out hb)
      have T1_12 := Aside0.mk (Own.below T1.out hb)
      have HZ0_12 := Aside0.mk (CsAt.below HZ0_11.out hb)
      clear y00 y01 y02
      obtain ⟨y00, y01, y02⟩ := HY0.out _ HB12.out
      clear z00 z01 z02
      obtain ⟨z00, z01, z02⟩ := HZ0_12.out
      clear hb
      go_wp2_with fail
      refine (markCase_c k0 XX0 dX0 (1) w4_ _ X0_12.out (by omega) (by omega) (by omega)).mono ?_; rintro _ w13_ ⟨rfl, ho, hg⟩
      have BV13 := Aside0.mk (Own.mark X0_12.out BV12.out hg)
      have HB13 := Aside0.mk (HB4.out.trans (BV13.out.mono HB4.out.size))
      have X1_13 := Aside0.mk (Own.grown X1_12.out hg AP_X0_X1.out.symm)
      have GS13 := Aside0.mk (Nat.le_trans GS12.out hg.size)
      have G_13 := Aside0.mk (OwnT.old G_12.out hg LT_X0.out)
      have X0_13 := Aside0.mk ho
      clear ho hg
      clear y00 y01 y02
      obtain ⟨y00, y01, y02⟩ := HY0.out _ HB13.out
      go_wp2_with fail
      refine (markBookS_c XX1 dX1 L1 (1 + (k0.hs.length : Int)) w4_ _ X1_13.out (by omega) (by omega) (by first | exact hRL | omega)).mono ?_; rintro _ w14_ ⟨rfl, ho, hg⟩
      have BV14 := Aside0.mk (Own.mark X1_13.out BV13.out hg)
      have HB14 := Aside0.mk (HB4.out.trans (BV14.out.mono HB4.out.size))
      have GS14 := Aside0.mk (Nat.le_trans GS13.out hg.size)
      have G_14 := Aside0.mk (OwnT.old G_13.out hg LT_X1.out)
      have X1_14 := Aside0.mk ho
      clear ho hg
      clear y00 y01 y02
      obtain ⟨y00, y01, y02⟩ := HY0.out _ HB14.out
      go_wp2_with fail
      refine (eqInt64SS_c XG XV dG dV R R _ ((G_14.out).readsT rfl) ((V.out.below BV14.out).readsT rfl)).mono ?_; rintro _ w15_ ⟨rfl, hb⟩
      have HB15 := Aside0.mk (bstep HB14.out hb)
      have BV15 := Aside0.mk (bstep BV14.out hb)
      have GS15 := Aside0.mk (Nat.le_trans GS14.out (hb).size)
      have G_15 := Aside0.mk (OwnT.below G_14.out hb)
      clear y00 y01 y02
      obtain ⟨y00, y01, y02⟩ := HY0.out _ HB15.out
      clear hb
      go_wp2_with fail
      refine (markT_c XG dG ZG R 1 w7_ _ G_15.out GS15.out (by omega) (by have := HRS.out; omega) HRW.out hRL).mono ?_; rintro _ w16_ ⟨rfl, ho, hbm⟩
      have BV16 := Aside0.mk (BV15.out.trans (hbm.mono BV7.out.size))
      have HB16 := Aside0.mk (HB4.out.trans (BV16.out.mono HB4.out.size))
      have G_16 := Aside0.mk ho
      have GS16 := Aside0.mk (Nat.le_trans GS15.out hbm.size)
      clear ho hbm
      clear y00 y01 y02
      obtain ⟨y00, y01, y02⟩ := HY0.out _ HB16.out
      go_wp2_with fail
      refine (heldT_c XG dG R 1 _ (G_16.out.readsT (mkT_len _ _ (Nat.le_refl _))) (by omega) (by have := HRS.out; omega) HRW.out hRL).mono ?_; rintro _ w17_ ⟨rfl, rfl⟩
      go_wp2_with fail
      refine (toCase_c k0 A0 c0 _ (Kd.C_below HL0.out (HW.out.trans (HB16.out.mono HW.out.size))) HN0.out).mono ?_; rintro _ w17_ ⟨_, rfl, hb, XU0, dU0, rfl, hv⟩
      have HB17 := Aside0.mk (bstep HB16.out hb)
      have BV17 := Aside0.mk (bstep BV16.out hb)
      have GS17 := Aside0.mk (Nat.le_trans GS16.out (hb).size)
      have G_17 := Aside0.mk (OwnT.below G_16.out hb)
      clear y00 y01 y02
      obtain ⟨y00, y01, y02⟩ := HY0.out _ HB17.out
      have U0 := Aside0.mk (Own.mk' (w0 := w4_) (kInt_E _) hv BV16.out.size)
      clear hb hv
      have ldU0 := (Kd.R_reads' U0.out).2.1
      simp only [Cs.val]
      go_wp2_with fail
      refine (toBookS_c A1 c1 L1 _ (Kd.C_below HL1.out (HW.out.trans (HB17.out.mono HW.out.size))) HN1.out).mono ?_; rintro _ w18_ ⟨v, rfl, hb, hv⟩
      have HB18 := Aside0.mk (bstep HB17.out hb)
      have BV18 := Aside0.mk (bstep BV17.out hb)
      have GS18 := Aside0.mk (Nat.le_trans GS17.out (hb).size)
      have G_18 := Aside0.mk (OwnT.below G_17.out hb)
      have U0_18 := Aside0.mk (Own.below U0.out hb)
      clear y00 y01 y02
      obtain ⟨y00, y01, y02⟩ := HY0.out _ HB18.out
      have U1 := Aside0.mk (Own.mk' (w0 := w4_) kBk_E hv BV17.out.size)
      clear hb hv
      obtain ⟨XU1, dU1, rfl, ldU1⟩ := U1.out.open
      go_wp2_with fail
      refine (HIM.out XU0 dU0 ldU0 XU1 dU1 ldU1 _ (U0_18.out.reads) (U1.out.reads)).mono ?_; rintro _ w19_ ⟨v', rfl, hb, v, ZH, rfl, hv⟩
      have HB19 := Aside0.mk (bstep HB18.out hb)
      have BV19 := Aside0.mk (bstep BV18.out hb)
      have GS19 := Aside0.mk (Nat.le_trans GS18.out (hb).size)
      have G_19 := Aside0.mk (OwnT.below G_18.out hb)
      have U0_19 := Aside0.mk (Own.below U0_18.out hb)
      have U1_19 := Aside0.mk (Own.below U1.out hb)
      clear y00 y01 y02
      obtain ⟨y00, y01, y02⟩ := HY0.out _ HB19.out
      have H := Aside0.mk hv
      clear hb hv
      obtain ⟨XH, dH, rfl, ldH⟩ := H.out.open
      go_wp2_with fail
      refine (eqInt64SS_c XH XV dH dV R R _ ((H.out).readsT rfl) ((V.out.below BV19.out).readsT rfl)).mono ?_; rintro _ w20_ ⟨rfl, hb⟩
      have HB20 := Aside0.mk (bstep HB19.out hb)
      have BV20 := Aside0.mk (bstep BV19.out hb)
      have GS20 := Aside0.mk (Nat.le_trans GS19.out (hb).size)
      have G_20 := Aside0.mk (OwnT.below G_19.out hb)
      have H_20 := Aside0.mk (OwnT.below H.out hb)
      clear y00 y01 y02
      obtain ⟨y00, y01, y02⟩ := HY0.out _ HB20.out
      clear hb
      go_wp2_with fail
      refine (heldT_c XG dG R 1 _ (G_20.out.readsT (mkT_len _ _ (Nat.le_refl _))) (by omega) (by have := HRS.out; omega) HRW.out hRL).mono ?_; rintro _ w21_ ⟨rfl, rfl⟩
      go_wp2_with fail
      go_ret
      exact ⟨rfl, (HW.out.trans (HB20.out.mono HW.out.size))⟩
end Go.Proofs.Ytdippdkneeocfaa
