/- The law FnExactSameCase returns true of every input. -/
import Derived.Test.YtdippdkneeocfaaCsSame
import Derived.Deep.RegionHeld3
namespace Go.Proofs.Ytdippdkneeocfaa
open Go.RowKit Go.Proofs.YtdippdkneeocfaaW.PrintWords Go.Proofs.YtdippdkneeocfaaW.PrintMore
set_option linter.unusedVariables false
set_option linter.unusedSimpArgs false
set_option maxRecDepth 100000

set_option maxHeartbeats 800000 in
theorem FnExactSameCase_c {w : World} (k0 : Cs) (A0 : Option Addr) (c0 : Nat) (hlc0 : k0.hs.length ≤ c0) (hL0 : (Kd.int .i16).C w A0 k0.hs.length k0.hs) (hok0 : k0.ok) (k1 : Cs) (A1 : Option Addr) (c1 : Nat) (hlc1 : k1.hs.length ≤ c1) (hL1 : (Kd.int .i16).C w A1 k1.hs.length k1.hs) (hok1 : k1.ok) :
    Calls Try.prog 6 #[k0.val A0 c0, k1.val A1 c1] w (Ret w (.bool true)) := by
  have hr0 := Kd.C_max hL0
  have HR0 := Aside0.mk hr0
  have HL0 := Aside0.mk hL0
  have HO0 := Aside0.mk hok0
  clear hL0 hok0 hr0
  have hr1 := Kd.C_max hL1
  have HR1 := Aside0.mk hr1
  have HL1 := Aside0.mk hL1
  have HO1 := Aside0.mk hok1
  clear hL1 hok1 hr1
  have HW := Aside0.mk (show Below w.heap.size w ((w.alloc (.cells #[.int .i16 k0.wd, .int .i32 k0.ld, .slice A0 k0.hs.length c0] 48)).alloc (.cells #[.int .i16 k1.wd, .int .i32 k1.ld, .slice A1 k1.hs.length c1] 48)) from (balloc (balloc (Below.refl _ _) _) _))
  have hy0 : CsAt ((w.alloc (.cells #[.int .i16 k0.wd, .int .i32 k0.ld, .slice A0 k0.hs.length c0] 48)).alloc (.cells #[.int .i16 k1.wd, .int .i32 k1.ld, .slice A1 k1.hs.length c1] 48)) ⟨w.heap.size, 0, none⟩ k0 A0 c0 := CsAt.below (CsAt.box w k0 A0 c0 48) (balloc (Below.refl _ _) _)
  try simp only [World.size_alloc] at hy0
  have HYC0 := Aside0.mk hy0
  clear hy0
  have HY0 := Aside0.mk (show ∀ W, Below (((w.alloc (.cells #[.int .i16 k0.wd, .int .i32 k0.ld, .slice A0 k0.hs.length c0] 48)).alloc (.cells #[.int .i16 k1.wd, .int .i32 k1.ld, .slice A1 k1.hs.length c1] 48))).heap.size ((w.alloc (.cells #[.int .i16 k0.wd, .int .i32 k0.ld, .slice A0 k0.hs.length c0] 48)).alloc (.cells #[.int .i16 k1.wd, .int .i32 k1.ld, .slice A1 k1.hs.length c1] 48)) W → CsAt W ⟨w.heap.size, 0, none⟩ k0 A0 c0 from fun W h => HYC0.out.below h)
  have hy1 : CsAt ((w.alloc (.cells #[.int .i16 k0.wd, .int .i32 k0.ld, .slice A0 k0.hs.length c0] 48)).alloc (.cells #[.int .i16 k1.wd, .int .i32 k1.ld, .slice A1 k1.hs.length c1] 48)) ⟨(w.alloc (.cells #[.int .i16 k0.wd, .int .i32 k0.ld, .slice A0 k0.hs.length c0] 48)).heap.size, 0, none⟩ k1 A1 c1 := CsAt.box (w.alloc (.cells #[.int .i16 k0.wd, .int .i32 k0.ld, .slice A0 k0.hs.length c0] 48)) k1 A1 c1 48
  try simp only [World.size_alloc] at hy1
  have HYC1 := Aside0.mk hy1
  clear hy1
  have HY1 := Aside0.mk (show ∀ W, Below (((w.alloc (.cells #[.int .i16 k0.wd, .int .i32 k0.ld, .slice A0 k0.hs.length c0] 48)).alloc (.cells #[.int .i16 k1.wd, .int .i32 k1.ld, .slice A1 k1.hs.length c1] 48))).heap.size ((w.alloc (.cells #[.int .i16 k0.wd, .int .i32 k0.ld, .slice A0 k0.hs.length c0] 48)).alloc (.cells #[.int .i16 k1.wd, .int .i32 k1.ld, .slice A1 k1.hs.length c1] 48)) W → CsAt W ⟨w.heap.size + 1, 0, none⟩ k1 A1 c1 from fun W h => HYC1.out.below h)
  have HB0 := Aside0.mk (Below.refl (((w.alloc (.cells #[.int .i16 k0.wd, .int .i32 k0.ld, .slice A0 k0.hs.length c0] 48)).alloc (.cells #[.int .i16 k1.wd, .int .i32 k1.ld, .slice A1 k1.hs.length c1] 48))).heap.size ((w.alloc (.cells #[.int .i16 k0.wd, .int .i32 k0.ld, .slice A0 k0.hs.length c0] 48)).alloc (.cells #[.int .i16 k1.wd, .int .i32 k1.ld, .slice A1 k1.hs.length c1] 48)))
  by_cases hlt0 : (1048576 : Int) < (k0.hs.length : Int)
  · skip
    obtain ⟨y00, y01, y02⟩ := HYC0.out
    obtain ⟨y10, y11, y12⟩ := HYC1.out
    simp only [Cs.val]
    go_enter Try.func6, Try.ntmps6
    go_wp2_with fail
    clear HYC0 HYC1
    generalize HW0E : World.alloc (World.alloc w _) _ = W0_ at HW HB0 HY0 HY1 y00 y01 y02 y10 y11 y12 ⊢
    clear HW0E
    refine (szCase_lt k0 A0 c0 _ _ HR0.out (by omega) (by omega) (by omega)).mono ?_; rintro _ w1_ ⟨rfl, hb⟩
    have HB1 := Aside0.mk (bstep HB0.out hb)
    clear hb
    clear y00 y01 y02 y10 y11 y12
    obtain ⟨y00, y01, y02⟩ := HY0.out _ HB1.out
    obtain ⟨y10, y11, y12⟩ := HY1.out _ HB1.out
    go_wp2_with fail
    go_ret
    exact ⟨rfl, HW.out.trans (HB1.out.mono HW.out.size)⟩
  · have hle0 : (k0.hs.length : Int) ≤ (1048576 : Int) := by omega
    by_cases hlt1 : ((1048576 : Int) - (k0.hs.length : Int)) < (k1.hs.length : Int)
    · skip
      obtain ⟨y00, y01, y02⟩ := HYC0.out
      obtain ⟨y10, y11, y12⟩ := HYC1.out
      simp only [Cs.val]
      go_enter Try.func6, Try.ntmps6
      go_wp2_with fail
      clear HYC0 HYC1
      generalize HW0E : World.alloc (World.alloc w _) _ = W0_ at HW HB0 HY0 HY1 y00 y01 y02 y10 y11 y12 ⊢
      clear HW0E
      refine (szCase_ge k0 A0 c0 _ _ HR0.out (by omega) (by omega) (by omega)).mono ?_; rintro _ w1_ ⟨rfl, hb⟩
      have HB1 := Aside0.mk (bstep HB0.out hb)
      clear hb
      clear y00 y01 y02 y10 y11 y12
      obtain ⟨y00, y01, y02⟩ := HY0.out _ HB1.out
      obtain ⟨y10, y11, y12⟩ := HY1.out _ HB1.out
      go_wp2_with fail
      refine (szCase_lt k1 A1 c1 _ _ HR1.out (by omega) (by omega) (by omega)).mono ?_; rintro _ w2_ ⟨rfl, hb⟩
      have HB2 := Aside0.mk (bstep HB1.out hb)
      clear hb
      clear y00 y01 y02 y10 y11 y12
      obtain ⟨y00, y01, y02⟩ := HY0.out _ HB2.out
      obtain ⟨y10, y11, y12⟩ := HY1.out _ HB2.out
      go_wp2_with fail
      go_ret
      exact ⟨rfl, HW.out.trans (HB2.out.mono HW.out.size)⟩
    · have hle1 : (k1.hs.length : Int) ≤ ((1048576 : Int) - (k0.hs.length : Int)) := by omega
      have HN0 := Aside0.mk (show k0.hs.length ≤ 2097152 by omega)
      have HN1 := Aside0.mk (show k1.hs.length ≤ 2097152 by omega)
      have HSP := Aside0.mk (fun (X0 : Option Addr) (d0 : Nat) (l0 : k0.hs.length ≤ d0) (X1 : Option Addr) (d1 : Nat) (l1 : k1.hs.length ≤ d1) (W : World) (h0 : (Kd.int .i16).C W X0 k0.hs.length k0.hs) (h1 : (Kd.int .i16).C W X1 k1.hs.length k1.hs) => specSameCase_c k0 k1 X0 X1 d0 d1 W h0 h1)
      have HIM := Aside0.mk (fun (X0 : Option Addr) (d0 : Nat) (l0 : k0.hs.length ≤ d0) (X1 : Option Addr) (d1 : Nat) (l1 : k1.hs.length ≤ d1) (W : World) (h0 : (Kd.int .i16).C W X0 k0.hs.length k0.hs) (h1 : (Kd.int .i16).C W X1 k1.hs.length k1.hs) => SameCase_c k0 k1 X0 X1 d0 d1 W h0 h1)
      simp only [Cs.val] at HSP HIM
      have hle0_ := HN0.out
      have hle1_ := HN1.out
      obtain ⟨y00, y01, y02⟩ := HYC0.out
      obtain ⟨y10, y11, y12⟩ := HYC1.out
      simp only [Cs.val]
      go_enter Try.func6, Try.ntmps6
      go_wp2_with fail
      clear HYC0 HYC1
      generalize HW0E : World.alloc (World.alloc w _) _ = W0_ at HW HB0 HY0 HY1 y00 y01 y02 y10 y11 y12 ⊢
      clear HW0E
      refine (szCase_ge k0 A0 c0 _ _ HR0.out (by omega) (by omega) (by omega)).mono ?_; rintro _ w1_ ⟨rfl, hb⟩
      have HB1 := Aside0.mk (bstep HB0.out hb)
      clear hb
      clear y00 y01 y02 y10 y11 y12
      obtain ⟨y00, y01, y02⟩ := HY0.out _ HB1.out
      obtain ⟨y10, y11, y12⟩ := HY1.out _ HB1.out
      go_wp2_with fail
      refine (szCase_ge k1 A1 c1 _ _ HR1.out (by omega) (by omega) (by omega)).mono ?_; rintro _ w2_ ⟨rfl, hb⟩
      have HB2 := Aside0.mk (bstep HB1.out hb)
      clear hb
      clear y00 y01 y02 y10 y11 y12
      obtain ⟨y00, y01, y02⟩ := HY0.out _ HB2.out
      obtain ⟨y10, y11, y12⟩ := HY1.out _ HB2.out
      go_wp2_with fail
      have HYB := Aside0.mk (show ∀ w', Below w2_.heap.size w2_ w' → Below w2_.heap.size w2_ w' ∧ (w'.cell? ⟨w.heap.size, 0, none⟩ = some (.int .i16 k0.wd) ∧ w'.cell? ⟨w.heap.size, 1, none⟩ = some (.int .i32 k0.ld) ∧ w'.cell? ⟨w.heap.size, 2, none⟩ = some (.slice A0 k0.hs.length c0)) ∧ (w'.cell? ⟨w.heap.size + 1, 0, none⟩ = some (.int .i16 k1.wd) ∧ w'.cell? ⟨w.heap.size + 1, 1, none⟩ = some (.int .i32 k1.ld) ∧ w'.cell? ⟨w.heap.size + 1, 2, none⟩ = some (.slice A1 k1.hs.length c1)) from fun w' h => ⟨h, by obtain ⟨a0, a1, a2⟩ := HY0.out _ (bstep HB2.out h); exact ⟨a0, a1, a2⟩, by obtain ⟨a0, a1, a2⟩ := HY1.out _ (bstep HB2.out h); exact ⟨a0, a1, a2⟩⟩)
      have HQ0 := Aside0.mk (show ∀ w', Below w2_.heap.size w2_ w' → (Kd.int .i16).C w' A0 k0.hs.length k0.hs from fun w' h => Kd.C_below HL0.out (HW.out.trans ((bstep HB2.out h).mono HW.out.size)))
      have HQ1 := Aside0.mk (show ∀ w', Below w2_.heap.size w2_ w' → (Kd.int .i16).C w' A1 k1.hs.length k1.hs from fun w' h => Kd.C_below HL1.out (HW.out.trans ((bstep HB2.out h).mono HW.out.size)))
      go_region_held3 (fun w' => Below w2_.heap.size w2_ w' ∧ (w'.cell? ⟨w.heap.size, 0, none⟩ = some (.int .i16 k0.wd) ∧ w'.cell? ⟨w.heap.size, 1, none⟩ = some (.int .i32 k0.ld) ∧ w'.cell? ⟨w.heap.size, 2, none⟩ = some (.slice A0 k0.hs.length c0)) ∧ (w'.cell? ⟨w.heap.size + 1, 0, none⟩ = some (.int .i16 k1.wd) ∧ w'.cell? ⟨w.heap.size + 1, 1, none⟩ = some (.int .i32 k1.ld) ∧ w'.cell? ⟨w.heap.size + 1, 2, none⟩ = some (.slice A1 k1.hs.length c1)))
        (first | exact HYB.out _ (bdrew (Below.refl _ _)) | exact HYB.out _ (bstep (And.left (by assumption)) hq0) | exact HYB.out _ (bstep (And.left (by assumption)) hq1) | exact HYB.out _ (bstep (And.left (by assumption)) hq9))
        (first | (go_at_call_of 44 (Value.agg #[.int .i16 k0.wd, .int .i32 k0.ld, .slice A0 k0.hs.length c0]); refine (toCase_c k0 A0 c0 _ (HQ0.out _ (And.left (by assumption))) HN0.out).mono ?_; rintro _ wq0 ⟨_, rfl, hq0, XQ0, dQ0, rfl, hvq0⟩; have HVQ0 := Aside0.mk (Kd.R_reads' hvq0).2.2; have lq0 := (Kd.R_reads' hvq0).2.1; clear hvq0; simp only [Cs.val]) | (go_at_call_of 44 (Value.agg #[.int .i16 k1.wd, .int .i32 k1.ld, .slice A1 k1.hs.length c1]); refine (toCase_c k1 A1 c1 _ (HQ1.out _ (And.left (by assumption))) HN1.out).mono ?_; rintro _ wq1 ⟨_, rfl, hq1, XQ1, dQ1, rfl, hvq1⟩; have HVQ1 := Aside0.mk (Kd.R_reads' hvq1).2.2; have lq1 := (Kd.R_reads' hvq1).2.1; clear hvq1; simp only [Cs.val]) | (go_at_call 43; refine (HSP.out XQ0 dQ0 lq0 XQ1 dQ1 lq1 _ (Kd.C_below HVQ0.out hq1) HVQ1.out).mono ?_; rintro _ wq9 ⟨rfl, hq9⟩))
      have hb : Below w2_.heap.size w2_ wq9 := And.left (by assumption)
      clear HYB HQ0 HQ1 hq0 hq1 hq9
      obtain ⟨w3_, hwn⟩ : ∃ W, W = wq9 := ⟨_, rfl⟩
      subst hwn
      have HB3 := Aside0.mk (bstep HB2.out hb)
      clear y00 y01 y02 y10 y11 y12
      obtain ⟨y00, y01, y02⟩ := HY0.out _ HB3.out
      obtain ⟨y10, y11, y12⟩ := HY1.out _ HB3.out
      clear hb
      go_wp2_with fail
      refine (toCase_c k0 A0 c0 _ (Kd.C_below HL0.out (HW.out.trans (HB3.out.mono HW.out.size))) HN0.out).mono ?_; rintro _ w4_ ⟨_, rfl, hb, XX0, dX0, rfl, hv⟩
      have HB4 := Aside0.mk (bstep HB3.out hb)
      clear y00 y01 y02 y10 y11 y12
      obtain ⟨y00, y01, y02⟩ := HY0.out _ HB4.out
      obtain ⟨y10, y11, y12⟩ := HY1.out _ HB4.out
      have X0 := Aside0.mk (Own.mk' (w0 := W0_) (kInt_E _) hv HB3.out.size)
      clear hb hv
      have ldX0 := (Kd.R_reads' X0.out).2.1
      simp only [Cs.val]
      clear y00 y01 y02 y10 y11 y12
      have HBA := Aside0.mk (show Below W0_.heap.size W0_ (World.alloc w4_ (.cells #[.int .i16 k0.wd, .int .i32 k0.ld, .slice XX0 k0.hs.length dX0] 51)) from balloc HB4.out _)
      obtain ⟨y00, y01, y02⟩ := HY0.out _ HBA.out
      obtain ⟨y10, y11, y12⟩ := HY1.out _ HBA.out
      go_wp2_with fail
      have hbx : CsAt (World.alloc w4_ (.cells #[.int .i16 k0.wd, .int .i32 k0.ld, .slice XX0 k0.hs.length dX0] 51)) ⟨w4_.heap.size, 0, none⟩ k0 XX0 dX0 := CsAt.box w4_ k0 XX0 dX0 51
      have hb : Below w4_.heap.size w4_ (World.alloc w4_ (.cells #[.int .i16 k0.wd, .int .i32 k0.ld, .slice XX0 k0.hs.length dX0] 51)) := balloc (Below.refl _ _) _
      clear y00 y01 y02 y10 y11 y12
      clear HBA 
      obtain ⟨y00, y01, y02⟩ := HY0.out _ HB4.out
      obtain ⟨y10, y11, y12⟩ := HY1.out _ HB4.out
      generalize hWX : World.alloc w4_ _ = w5_ at hbx hb ⊢
      clear hWX
      have HB5 := Aside0.mk (bstep HB4.out hb)
      have X0_5 := Aside0.mk (Own.below X0.out hb)
      have HZ0_5 := Aside0.mk hbx
      clear hbx hb
      clear y00 y01 y02 y10 y11 y12
      obtain ⟨y00, y01, y02⟩ := HY0.out _ HB5.out
      obtain ⟨y10, y11, y12⟩ := HY1.out _ HB5.out
      obtain ⟨z00, z01, z02⟩ := HZ0_5.out
      refine (toCase_c k1 A1 c1 _ (Kd.C_below HL1.out (HW.out.trans (HB5.out.mono HW.out.size))) HN1.out).mono ?_; rintro _ w6_ ⟨_, rfl, hb, XX1, dX1, rfl, hv⟩
      have HB6 := Aside0.mk (bstep HB5.out hb)
      have X0_6 := Aside0.mk (Own.below X0_5.out hb)
      have HZ0_6 := Aside0.mk (CsAt.below HZ0_5.out hb)
      clear y00 y01 y02 y10 y11 y12
      obtain ⟨y00, y01, y02⟩ := HY0.out _ HB6.out
      obtain ⟨y10, y11, y12⟩ := HY1.out _ HB6.out
      clear z00 z01 z02
      obtain ⟨z00, z01, z02⟩ := HZ0_6.out
      have X1 := Aside0.mk (Own.mk' (w0 := W0_) (kInt_E _) hv HB5.out.size)
      have AP_X0_X1 := Aside0.mk (Apart.new X0_5.out hv)
      clear hb hv
      have ldX1 := (Kd.R_reads' X1.out).2.1
      simp only [Cs.val]
      clear y00 y01 y02 y10 y11 y12
      have HBA := Aside0.mk (show Below W0_.heap.size W0_ (World.alloc w6_ (.cells #[.int .i16 k1.wd, .int .i32 k1.ld, .slice XX1 k1.hs.length dX1] 51)) from balloc HB6.out _)
      obtain ⟨y00, y01, y02⟩ := HY0.out _ HBA.out
      obtain ⟨y10, y11, y12⟩ := HY1.out _ HBA.out
      clear z00 z01 z02
      obtain ⟨z00, z01, z02⟩ := CsAt.below HZ0_6.out (balloc (Below.refl _ _) (.cells #[.int .i16 k1.wd, .int .i32 k1.ld, .slice XX1 k1.hs.length dX1] 51))
      go_wp2_with fail
      have hbx : CsAt (World.alloc w6_ (.cells #[.int .i16 k1.wd, .int .i32 k1.ld, .slice XX1 k1.hs.length dX1] 51)) ⟨w6_.heap.size, 0, none⟩ k1 XX1 dX1 := CsAt.box w6_ k1 XX1 dX1 51
      have hb : Below w6_.heap.size w6_ (World.alloc w6_ (.cells #[.int .i16 k1.wd, .int .i32 k1.ld, .slice XX1 k1.hs.length dX1] 51)) := balloc (Below.refl _ _) _
      clear y00 y01 y02 y10 y11 y12
      clear HBA z00 z01 z02
      obtain ⟨y00, y01, y02⟩ := HY0.out _ HB6.out
      obtain ⟨y10, y11, y12⟩ := HY1.out _ HB6.out
      generalize hWX : World.alloc w6_ _ = w7_ at hbx hb ⊢
      clear hWX
      have HB7 := Aside0.mk (bstep HB6.out hb)
      have X0_7 := Aside0.mk (Own.below X0_6.out hb)
      have X1_7 := Aside0.mk (Own.below X1.out hb)
      have HZ0_7 := Aside0.mk (CsAt.below HZ0_6.out hb)
      have HZ1_7 := Aside0.mk hbx
      clear hbx hb
      clear y00 y01 y02 y10 y11 y12
      obtain ⟨y00, y01, y02⟩ := HY0.out _ HB7.out
      obtain ⟨y10, y11, y12⟩ := HY1.out _ HB7.out
      obtain ⟨z00, z01, z02⟩ := HZ0_7.out
      obtain ⟨z10, z11, z12⟩ := HZ1_7.out
      refine (HIM.out XX0 dX0 ldX0 XX1 dX1 ldX1 _ (X0_7.out.reads) (X1_7.out.reads)).mono ?_; rintro _ w8_ ⟨rfl, hb⟩
      have HB8 := Aside0.mk (bstep HB7.out hb)
      have X0_8 := Aside0.mk (Own.below X0_7.out hb)
      have X1_8 := Aside0.mk (Own.below X1_7.out hb)
      have HZ0_8 := Aside0.mk (CsAt.below HZ0_7.out hb)
      have HZ1_8 := Aside0.mk (CsAt.below HZ1_7.out hb)
      clear y00 y01 y02 y10 y11 y12
      obtain ⟨y00, y01, y02⟩ := HY0.out _ HB8.out
      obtain ⟨y10, y11, y12⟩ := HY1.out _ HB8.out
      clear z00 z01 z02
      clear z10 z11 z12
      obtain ⟨z00, z01, z02⟩ := HZ0_8.out
      obtain ⟨z10, z11, z12⟩ := HZ1_8.out
      clear hb
      go_wp2_with fail
      have HYB := Aside0.mk (show ∀ w', Below w8_.heap.size w8_ w' → Below w8_.heap.size w8_ w' ∧ (w'.cell? ⟨w.heap.size, 0, none⟩ = some (.int .i16 k0.wd) ∧ w'.cell? ⟨w.heap.size, 1, none⟩ = some (.int .i32 k0.ld) ∧ w'.cell? ⟨w.heap.size, 2, none⟩ = some (.slice A0 k0.hs.length c0)) ∧ (w'.cell? ⟨w.heap.size + 1, 0, none⟩ = some (.int .i16 k1.wd) ∧ w'.cell? ⟨w.heap.size + 1, 1, none⟩ = some (.int .i32 k1.ld) ∧ w'.cell? ⟨w.heap.size + 1, 2, none⟩ = some (.slice A1 k1.hs.length c1)) ∧ (w'.cell? ⟨w4_.heap.size, 0, none⟩ = some (.int .i16 k0.wd) ∧ w'.cell? ⟨w4_.heap.size, 1, none⟩ = some (.int .i32 k0.ld) ∧ w'.cell? ⟨w4_.heap.size, 2, none⟩ = some (.slice XX0 k0.hs.length dX0)) from fun w' h => ⟨h, by obtain ⟨a0, a1, a2⟩ := HY0.out _ (bstep HB8.out h); exact ⟨a0, a1, a2⟩, by obtain ⟨a0, a1, a2⟩ := HY1.out _ (bstep HB8.out h); exact ⟨a0, a1, a2⟩, by obtain ⟨a0, a1, a2⟩ := CsAt.below HZ0_8.out h; exact ⟨a0, a1, a2⟩⟩)
      have HQ0 := Aside0.mk (show ∀ w', Below w8_.heap.size w8_ w' → (Kd.int .i16).C w' A0 k0.hs.length k0.hs from fun w' h => Kd.C_below HL0.out (HW.out.trans ((bstep HB8.out h).mono HW.out.size)))
      have HQ1 := Aside0.mk (show ∀ w', Below w8_.heap.size w8_ w' → (Kd.int .i16).C w' A1 k1.hs.length k1.hs from fun w' h => Kd.C_below HL1.out (HW.out.trans ((bstep HB8.out h).mono HW.out.size)))
      go_region_held3 (fun w' => Below w8_.heap.size w8_ w' ∧ (w'.cell? ⟨w.heap.size, 0, none⟩ = some (.int .i16 k0.wd) ∧ w'.cell? ⟨w.heap.size, 1, none⟩ = some (.int .i32 k0.ld) ∧ w'.cell? ⟨w.heap.size, 2, none⟩ = some (.slice A0 k0.hs.length c0)) ∧ (w'.cell? ⟨w.heap.size + 1, 0, none⟩ = some (.int .i16 k1.wd) ∧ w'.cell? ⟨w.heap.size + 1, 1, none⟩ = some (.int .i32 k1.ld) ∧ w'.cell? ⟨w.heap.size + 1, 2, none⟩ = some (.slice A1 k1.hs.length c1)) ∧ (w'.cell? ⟨w4_.heap.size, 0, none⟩ = some (.int .i16 k0.wd) ∧ w'.cell? ⟨w4_.heap.size, 1, none⟩ = some (.int .i32 k0.ld) ∧ w'.cell? ⟨w4_.heap.size, 2, none⟩ = some (.slice XX0 k0.hs.length dX0)))
        (first | exact HYB.out _ (bdrew (Below.refl _ _)) | exact HYB.out _ (bstep (And.left (by assumption)) hq1) | exact HYB.out _ (bstep (And.left (by assumption)) hq2))
        (first | (go_at_call 44; refine (toCase_c k0 A0 c0 _ (HQ0.out _ (And.left (by assumption))) HN0.out).mono ?_; rintro _ wq1 ⟨_, rfl, hq1, XQ, dQ, rfl, hvq⟩; have HVQ := Aside0.mk (Kd.R_reads' hvq).2.2; clear hvq; simp only [Cs.val]) | (go_at_call 46; refine (eqCase_c k0 k0 XX0 XQ dX0 dQ _ (Kd.C_below (Kd.C_below X0_8.out.reads (bdrew (Below.refl _ _))) hq1) HVQ.out).mono ?_; rintro _ wq2 ⟨rfl, hq2⟩))
      have hb : Below w8_.heap.size w8_ wq2 := And.left (by assumption)
      clear HYB HQ0 HQ1
      clear hq1 hq2
      obtain ⟨w9_, hwn⟩ : ∃ W, W = wq2 := ⟨_, rfl⟩
      subst hwn
      have HB9 := Aside0.mk (bstep HB8.out hb)
      have X0_9 := Aside0.mk (Own.below X0_8.out hb)
      have X1_9 := Aside0.mk (Own.below X1_8.out hb)
      have HZ0_9 := Aside0.mk (CsAt.below HZ0_8.out hb)
      have HZ1_9 := Aside0.mk (CsAt.below HZ1_8.out hb)
      clear y00 y01 y02 y10 y11 y12
      obtain ⟨y00, y01, y02⟩ := HY0.out _ HB9.out
      obtain ⟨y10, y11, y12⟩ := HY1.out _ HB9.out
      clear z00 z01 z02
      clear z10 z11 z12
      obtain ⟨z00, z01, z02⟩ := HZ0_9.out
      obtain ⟨z10, z11, z12⟩ := HZ1_9.out
      clear hb
      go_wp2_with fail
      have HYB := Aside0.mk (show ∀ w', Below w9_.heap.size w9_ w' → Below w9_.heap.size w9_ w' ∧ (w'.cell? ⟨w.heap.size, 0, none⟩ = some (.int .i16 k0.wd) ∧ w'.cell? ⟨w.heap.size, 1, none⟩ = some (.int .i32 k0.ld) ∧ w'.cell? ⟨w.heap.size, 2, none⟩ = some (.slice A0 k0.hs.length c0)) ∧ (w'.cell? ⟨w.heap.size + 1, 0, none⟩ = some (.int .i16 k1.wd) ∧ w'.cell? ⟨w.heap.size + 1, 1, none⟩ = some (.int .i32 k1.ld) ∧ w'.cell? ⟨w.heap.size + 1, 2, none⟩ = some (.slice A1 k1.hs.length c1)) ∧ (w'.cell? ⟨w6_.heap.size, 0, none⟩ = some (.int .i16 k1.wd) ∧ w'.cell? ⟨w6_.heap.size, 1, none⟩ = some (.int .i32 k1.ld) ∧ w'.cell? ⟨w6_.heap.size, 2, none⟩ = some (.slice XX1 k1.hs.length dX1)) from fun w' h => ⟨h, by obtain ⟨a0, a1, a2⟩ := HY0.out _ (bstep HB9.out h); exact ⟨a0, a1, a2⟩, by obtain ⟨a0, a1, a2⟩ := HY1.out _ (bstep HB9.out h); exact ⟨a0, a1, a2⟩, by obtain ⟨a0, a1, a2⟩ := CsAt.below HZ1_9.out h; exact ⟨a0, a1, a2⟩⟩)
      have HQ0 := Aside0.mk (show ∀ w', Below w9_.heap.size w9_ w' → (Kd.int .i16).C w' A0 k0.hs.length k0.hs from fun w' h => Kd.C_below HL0.out (HW.out.trans ((bstep HB9.out h).mono HW.out.size)))
      have HQ1 := Aside0.mk (show ∀ w', Below w9_.heap.size w9_ w' → (Kd.int .i16).C w' A1 k1.hs.length k1.hs from fun w' h => Kd.C_below HL1.out (HW.out.trans ((bstep HB9.out h).mono HW.out.size)))
      go_region_held3 (fun w' => Below w9_.heap.size w9_ w' ∧ (w'.cell? ⟨w.heap.size, 0, none⟩ = some (.int .i16 k0.wd) ∧ w'.cell? ⟨w.heap.size, 1, none⟩ = some (.int .i32 k0.ld) ∧ w'.cell? ⟨w.heap.size, 2, none⟩ = some (.slice A0 k0.hs.length c0)) ∧ (w'.cell? ⟨w.heap.size + 1, 0, none⟩ = some (.int .i16 k1.wd) ∧ w'.cell? ⟨w.heap.size + 1, 1, none⟩ = some (.int .i32 k1.ld) ∧ w'.cell? ⟨w.heap.size + 1, 2, none⟩ = some (.slice A1 k1.hs.length c1)) ∧ (w'.cell? ⟨w6_.heap.size, 0, none⟩ = some (.int .i16 k1.wd) ∧ w'.cell? ⟨w6_.heap.size, 1, none⟩ = some (.int .i32 k1.ld) ∧ w'.cell? ⟨w6_.heap.size, 2, none⟩ = some (.slice XX1 k1.hs.length dX1)))
        (first | exact HYB.out _ (bdrew (Below.refl _ _)) | exact HYB.out _ (bstep (And.left (by assumption)) hq1) | exact HYB.out _ (bstep (And.left (by assumption)) hq2))
        (first | (go_at_call 44; refine (toCase_c k1 A1 c1 _ (HQ1.out _ (And.left (by assumption))) HN1.out).mono ?_; rintro _ wq1 ⟨_, rfl, hq1, XQ, dQ, rfl, hvq⟩; have HVQ := Aside0.mk (Kd.R_reads' hvq).2.2; clear hvq; simp only [Cs.val]) | (go_at_call 46; refine (eqCase_c k1 k1 XX1 XQ dX1 dQ _ (Kd.C_below (Kd.C_below X1_9.out.reads (bdrew (Below.refl _ _))) hq1) HVQ.out).mono ?_; rintro _ wq2 ⟨rfl, hq2⟩))
      have hb : Below w9_.heap.size w9_ wq2 := And.left (by assumption)
      clear HYB HQ0 HQ1
      clear hq1 hq2
      obtain ⟨w10_, hwn⟩ : ∃ W, W = wq2 := ⟨_, rfl⟩
      subst hwn
      have HB10 := Aside0.mk (bstep HB9.out hb)
      have X0_10 := Aside0.mk (Own.below X0_9.out hb)
      have X1_10 := Aside0.mk (Own.below X1_9.out hb)
      have HZ0_10 := Aside0.mk (CsAt.below HZ0_9.out hb)
      have HZ1_10 := Aside0.mk (CsAt.below HZ1_9.out hb)
      clear y00 y01 y02 y10 y11 y12
      obtain ⟨y00, y01, y02⟩ := HY0.out _ HB10.out
      obtain ⟨y10, y11, y12⟩ := HY1.out _ HB10.out
      clear z00 z01 z02
      clear z10 z11 z12
      obtain ⟨z00, z01, z02⟩ := HZ0_10.out
      obtain ⟨z10, z11, z12⟩ := HZ1_10.out
      clear hb
      go_wp2_with fail
      go_ret
      exact ⟨rfl, (HW.out.trans (HB10.out.mono HW.out.size))⟩
end Go.Proofs.Ytdippdkneeocfaa
