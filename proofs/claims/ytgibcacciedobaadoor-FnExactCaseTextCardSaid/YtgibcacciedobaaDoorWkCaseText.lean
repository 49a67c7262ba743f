/- The law FnExactCaseText returns true of every input. -/
import Derived.Test.YtgibcacciedobaaDoorTxI
import Derived.Deep.RegionHeld3
namespace Go.Proofs.YtgibcacciedobaaDoor
open Go.RowKit Go.Proofs.YtgibcacciedobaaDoorW.PrintWords Go.Proofs.YtgibcacciedobaaDoorW.PrintMore
set_option linter.unusedVariables false
set_option linter.unusedSimpArgs false
set_option maxRecDepth 100000

set_option maxHeartbeats 8000000 in
theorem FnExactCaseText_c {w : World} (k0 : Cs) (A0 : Option Addr) (c0 : Nat) (hlc0 : k0.hs.length ≤ c0) (hL0 : (Kd.int .i16).C w A0 k0.hs.length k0.hs) (hok0 : k0.ok) (ht : Tab w) :
    Calls Tryd.prog 8 #[k0.val A0 c0] w (Ret w (.bool true)) := by
  have HT := Aside0.mk ht
  clear ht
  have hr0 := Kd.C_max hL0
  have HR0 := Aside0.mk hr0
  have HL0 := Aside0.mk hL0
  have HO0 := Aside0.mk hok0
  clear hL0 hok0 hr0
  have HW := Aside0.mk (show Below w.heap.size w (w.alloc (.cells #[.int .i16 k0.wd, .int .i32 k0.ld, .slice A0 k0.hs.length c0] 51)) from (balloc (Below.refl _ _) _))
  have hy0 : CsAt (w.alloc (.cells #[.int .i16 k0.wd, .int .i32 k0.ld, .slice A0 k0.hs.length c0] 51)) ⟨w.heap.size, 0, none⟩ k0 A0 c0 := CsAt.box w k0 A0 c0 51
  try simp only [World.size_alloc] at hy0
  have HYC0 := Aside0.mk hy0
  clear hy0
  have HY0 := Aside0.mk (show ∀ W, Below ((w.alloc (.cells #[.int .i16 k0.wd, .int .i32 k0.ld, .slice A0 k0.hs.length c0] 51))).heap.size (w.alloc (.cells #[.int .i16 k0.wd, .int .i32 k0.ld, .slice A0 k0.hs.length c0] 51)) W → CsAt W ⟨w.heap.size, 0, none⟩ k0 A0 c0 from fun W h => HYC0.out.below h)
  have HB0 := Aside0.mk (Below.refl ((w.alloc (.cells #[.int .i16 k0.wd, .int .i32 k0.ld, .slice A0 k0.hs.length c0] 51))).heap.size (w.alloc (.cells #[.int .i16 k0.wd, .int .i32 k0.ld, .slice A0 k0.hs.length c0] 51)))
  by_cases hlt0 : (1048576 : Int) < (k0.hs.length : Int)
  · skip
    obtain ⟨y00, y01, y02⟩ := HYC0.out
    simp only [Cs.val]
    go_enter Tryd.func8, Tryd.ntmps8
    go_wp2_with fail
    clear HYC0
    generalize HW0E : World.alloc w _ = W0_ at HW HB0 HY0 y00 y01 y02 ⊢
    clear HW0E
    refine (szCase_lt k0 A0 c0 _ _ HR0.out (by omega) (by omega) (by omega)).mono ?_; rintro _ w1_ ⟨rfl, hb⟩
    have HB1 := Aside0.mk (bstep HB0.out hb)
    clear hb
    clear y00 y01 y02
    obtain ⟨y00, y01, y02⟩ := HY0.out _ HB1.out
    go_wp2_with fail
    go_ret
    exact ⟨rfl, HW.out.trans (HB1.out.mono HW.out.size)⟩
  · have hle0 : (k0.hs.length : Int) ≤ (1048576 : Int) := by omega
    have HN0 := Aside0.mk (show k0.hs.length ≤ 2097152 by omega)
    have HSP := Aside0.mk (fun (X0 : Option Addr) (d0 : Nat) (l0 : k0.hs.length ≤ d0) (W : World) (h0 : (Kd.int .i16).C W X0 k0.hs.length k0.hs) => specCaseText_c k0 X0 d0 HO0.out W h0)
    have HIM := Aside0.mk (fun (X0 : Option Addr) (d0 : Nat) (l0 : k0.hs.length ≤ d0) (W : World) (h0 : (Kd.int .i16).C W X0 k0.hs.length k0.hs) (ht : Tab W) => CaseText_c k0 X0 d0 W h0 ht)
    simp only [Cs.val] at HSP HIM
    have hle0_ := HN0.out
    obtain ⟨y00, y01, y02⟩ := HYC0.out
    simp only [Cs.val]
    go_enter Tryd.func8, Tryd.ntmps8
    go_wp2_with fail
    clear HYC0
    generalize HW0E : World.alloc w _ = W0_ at HW HB0 HY0 y00 y01 y02 ⊢
    clear HW0E
    refine (szCase_ge k0 A0 c0 _ _ HR0.out (by omega) (by omega) (by omega)).mono ?_; rintro _ w1_ ⟨rfl, hb⟩
    have HB1 := Aside0.mk (bstep HB0.out hb)
    clear hb
    clear y00 y01 y02
    obtain ⟨y00, y01, y02⟩ := HY0.out _ HB1.out
    go_wp2_with fail
    refine (toCase_c k0 A0 c0 _ (Kd.C_below HL0.out (HW.out.trans (HB1.out.mono HW.out.size))) HN0.out).mono ?_; rintro _ w2_ ⟨_, rfl, hb, XS0, dS0, rfl, hv⟩
    have HB2 := Aside0.mk (bstep HB1.out hb)
    clear y00 y01 y02
    obtain ⟨y00, y01, y02⟩ := HY0.out _ HB2.out
    have S0 := Aside0.mk (Own.mk' (w0 := W0_) (kInt_E _) hv HB1.out.size)
    clear hb hv
    have ldS0 := (Kd.R_reads' S0.out).2.1
    simp only [Cs.val]
    go_wp2_with fail
    refine (HSP.out XS0 dS0 ldS0 _ (S0.out.reads)).mono ?_; rintro _ w3_ ⟨rfl, hb⟩
    have HB3 := Aside0.mk (bstep HB2.out hb)
    have S0_3 := Aside0.mk (Own.below S0.out hb)
    clear y00 y01 y02
    obtain ⟨y00, y01, y02⟩ := HY0.out _ HB3.out
    clear hb
    go_wp2_with fail
    refine (toCase_c k0 A0 c0 _ (Kd.C_below HL0.out (HW.out.trans (HB3.out.mono HW.out.size))) HN0.out).mono ?_; rintro _ w4_ ⟨_, rfl, hb, XX0, dX0, rfl, hv⟩
    have HB4 := Aside0.mk (bstep HB3.out hb)
    clear y00 y01 y02
    obtain ⟨y00, y01, y02⟩ := HY0.out _ HB4.out
    have X0 := Aside0.mk (Own.mk' (w0 := W0_) (kInt_E _) hv HB3.out.size)
    clear hb hv
    have ldX0 := (Kd.R_reads' X0.out).2.1
    simp only [Cs.val]
    clear y00 y01 y02
    have HBA := Aside0.mk (show Below W0_.heap.size W0_ (World.alloc w4_ (.cells #[.int .i16 k0.wd, .int .i32 k0.ld, .slice XX0 k0.hs.length dX0] 54)) from balloc HB4.out _)
    obtain ⟨y00, y01, y02⟩ := HY0.out _ HBA.out
    go_wp2_with fail
    have hbx : CsAt (World.alloc w4_ (.cells #[.int .i16 k0.wd, .int .i32 k0.ld, .slice XX0 k0.hs.length dX0] 54)) ⟨w4_.heap.size, 0, none⟩ k0 XX0 dX0 := CsAt.box w4_ k0 XX0 dX0 54
    have hb : Below w4_.heap.size w4_ (World.alloc w4_ (.cells #[.int .i16 k0.wd, .int .i32 k0.ld, .slice XX0 k0.hs.length dX0] 54)) := balloc (Below.refl _ _) _
    clear y00 y01 y02
    clear HBA 
    obtain ⟨y00, y01, y02⟩ := HY0.out _ HB4.out
    generalize hWX : World.alloc w4_ _ = w5_ at hbx hb ⊢
    clear hWX
    have HB5 := Aside0.mk (bstep HB4.out hb)
    have X0_5 := Aside0.mk (Own.below X0.out hb)
    have HZ0_5 := Aside0.mk hbx
    clear hbx hb
    clear y00 y01 y02
    obtain ⟨y00, y01, y02⟩ := HY0.out _ HB5.out
    obtain ⟨z00, z01, z02⟩ := HZ0_5.out
    refine (HIM.out XX0 dX0 ldX0 _ (X0_5.out.reads) (HT.out.below (HW.out.trans (HB5.out.mono HW.out.size)))).mono ?_; rintro _ w6_ ⟨rfl, hb⟩
    have HB6 := Aside0.mk (bstep HB5.out hb)
    have X0_6 := Aside0.mk (Own.below X0_5.out hb)
    have HZ0_6 := Aside0.mk (CsAt.below HZ0_5.out hb)
    clear y00 y01 y02
    obtain ⟨y00, y01, y02⟩ := HY0.out _ HB6.out
    clear z00 z01 z02
    obtain ⟨z00, z01, z02⟩ := HZ0_6.out
    clear hb
    go_wp2_with fail
    have HYB := Aside0.mk (show ∀ w', Below w6_.heap.size w6_ w' → Below w6_.heap.size w6_ w' ∧ (w'.cell? ⟨w.heap.size, 0, none⟩ = some (.int .i16 k0.wd) ∧ w'.cell? ⟨w.heap.size, 1, none⟩ = some (.int .i32 k0.ld) ∧ w'.cell? ⟨w.heap.size, 2, none⟩ = some (.slice A0 k0.hs.length c0)) ∧ (w'.cell? ⟨w4_.heap.size, 0, none⟩ = some (.int .i16 k0.wd) ∧ w'.cell? ⟨w4_.heap.size, 1, none⟩ = some (.int .i32 k0.ld) ∧ w'.cell? ⟨w4_.heap.size, 2, none⟩ = some (.slice XX0 k0.hs.length dX0)) from fun w' h => ⟨h, by obtain ⟨a0, a1, a2⟩ := HY0.out _ (bstep HB6.out h); exact ⟨a0, a1, a2⟩, by obtain ⟨a0, a1, a2⟩ := CsAt.below HZ0_6.out h; exact ⟨a0, a1, a2⟩⟩)
    have HQ0 := Aside0.mk (show ∀ w', Below w6_.heap.size w6_ w' → (Kd.int .i16).C w' A0 k0.hs.length k0.hs from fun w' h => Kd.C_below HL0.out (HW.out.trans ((bstep HB6.out h).mono HW.out.size)))
    go_region_held3 (fun w' => Below w6_.heap.size w6_ w' ∧ (w'.cell? ⟨w.heap.size, 0, none⟩ = some (.int .i16 k0.wd) ∧ w'.cell? ⟨w.heap.size, 1, none⟩ = some (.int .i32 k0.ld) ∧ w'.cell? ⟨w.heap.size, 2, none⟩ = some (.slice A0 k0.hs.length c0)) ∧ (w'.cell? ⟨w4_.heap.size, 0, none⟩ = some (.int .i16 k0.wd) ∧ w'.cell? ⟨w4_.heap.size, 1, none⟩ = some (.int .i32 k0.ld) ∧ w'.cell? ⟨w4_.heap.size, 2, none⟩ = some (.slice XX0 k0.hs.length dX0)))
      (first | exact HYB.out _ (bdrew (Below.refl _ _)) | exact HYB.out _ (bstep (And.left (by assumption)) hq1) | exact HYB.out _ (bstep (And.left (by assumption)) hq2))
      (first | (go_at_call 32; refine (toCase_c k0 A0 c0 _ (HQ0.out _ (And.left (by assumption))) HN0.out).mono ?_; rintro _ wq1 ⟨_, rfl, hq1, XQ, dQ, rfl, hvq⟩; have HVQ := Aside0.mk (Kd.R_reads' hvq).2.2; clear hvq; simp only [Cs.val]) | (go_at_call 34; refine (eqCase_c k0 k0 XX0 XQ dX0 dQ _ (Kd.C_below (Kd.C_below X0_6.out.reads (bdrew (Below.refl _ _))) hq1) HVQ.out).mono ?_; rintro _ wq2 ⟨rfl, hq2⟩))
    have hb : Below w6_.heap.size w6_ wq2 := And.left (by assumption)
    clear HYB HQ0
    clear hq1 hq2
    obtain ⟨w7_, hwn⟩ : ∃ W, W = wq2 := ⟨_, rfl⟩
    subst hwn
    have HB7 := Aside0.mk (bstep HB6.out hb)
    have X0_7 := Aside0.mk (Own.below X0_6.out hb)
    have HZ0_7 := Aside0.mk (CsAt.below HZ0_6.out hb)
    clear y00 y01 y02
    obtain ⟨y00, y01, y02⟩ := HY0.out _ HB7.out
    clear z00 z01 z02
    obtain ⟨z00, z01, z02⟩ := HZ0_7.out
    clear hb
    go_wp2_with fail
    go_ret
    exact ⟨rfl, (HW.out.trans (HB7.out.mono HW.out.size))⟩
end Go.Proofs.YtgibcacciedobaaDoor
