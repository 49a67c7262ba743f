/- Texts of this proof that belong together: WkFnSorted. No condition. -/
import Derived.Test.YtkilblnlplfknaaGreatDoorS5
import Derived.StillTailTactics
import Derived.Still
import Derived.Deep.QuietTactic
import Derived.BigQuiet
import Derived.Deep.RegionHeld3
import Derived.Deep.DeepCutAuto
import Derived.Deep.CutRange
section
/- The law FnSortedLists returns true of every input. -/
namespace Go.Proofs.YtkilblnlplfknaaGreatDoor
open Go.RowKit Go.Proofs.YtkilblnlplfknaaGreatDoorW.PrintWords Go.Proofs.YtkilblnlplfknaaGreatDoorW.PrintMore
set_option linter.unusedVariables false
set_option linter.unusedSimpArgs false
set_option maxRecDepth 100000

set_option maxHeartbeats 16000000 in
theorem FnSortedLists_c {w : World} (A0 : Option Addr) (c0 : Nat) (L0 : List Int) (hlc0 : L0.length ≤ c0) (hL0 : (Kd.int .u8).C w A0 L0.length L0) (hok0 : ∀ x, x ∈ L0 → 0 ≤ x ∧ x ≤ 255) (A1 : Option Addr) (c1 : Nat) (L1 : List Int) (hlc1 : L1.length ≤ c1) (hL1 : (Kd.int .u8).C w A1 L1.length L1) (hok1 : ∀ x, x ∈ L1 → 0 ≤ x ∧ x ≤ 255) (ht : Txt w) :
    Calls Tryz.prog 3 #[.slice A0 L0.length c0, .slice A1 L1.length c1] w (Ret w (.bool true)) := by
  have hr0 := Kd.C_max hL0
  have hr1 := Kd.C_max hL1
  have HA0 := Aside0.mk (f6big_c A0 L0.length c0 hr0 w)
  have HA1 := Aside0.mk (f6big_c A1 L1.length c1 hr1 w)
  have HL0 := Aside0.mk hL0
  have HL1 := Aside0.mk hL1
  have HO0 := Aside0.mk hok0
  have HO1 := Aside0.mk hok1
  have HT := Aside0.mk ht
  clear hL0 hL1 hok0 hok1 ht
  by_cases hb0 : 4096 < L0.length
  · rw [decide_eq_true hb0] at HA0
    clear hb0
    go_enter Tryz.func3, Tryz.ntmps3
    go_wp2_with fail
    refine HA0.out.mono ?_; rintro _ w0 ⟨rfl, rfl⟩
    go_wp2
    go_ret
    exact ⟨rfl, Below.refl _ _⟩
  · rw [decide_eq_false hb0] at HA0
    clear hb0
    by_cases hb1 : 4096 < L1.length
    · rw [decide_eq_true hb1] at HA1
      clear hb1
      go_enter Tryz.func3, Tryz.ntmps3
      go_wp2_with fail
      refine HA0.out.mono ?_; rintro _ w0 ⟨rfl, rfl⟩
      go_wp2_with fail
      refine HA1.out.mono ?_; rintro _ w0 ⟨rfl, rfl⟩
      go_wp2
      go_ret
      exact ⟨rfl, Below.refl _ _⟩
    · rw [decide_eq_false hb1] at HA1
      have HLB1 := Aside0.mk hb1
      clear hb1
      go_enter Tryz.func3, Tryz.ntmps3
      go_wp2_with fail
      refine HA0.out.mono ?_; rintro _ w0 ⟨rfl, rfl⟩
      go_wp2_with fail
      refine HA1.out.mono ?_; rintro _ w0 ⟨rfl, rfl⟩
      clear HA0 HA1
      have HT_0 := HT
      have HB_0 := Aside0.mk (Below.refl w.heap.size w)
      go_wp2_with fail
      refine (P6List_c A0 c0 L0 _ (Kd.C_below HL0.out HB_0.out) HO0.out).mono ?_; rintro _ w1 ⟨vl, rfl, hb, La, hRL, hVB, hl11⟩
      have HT_1 := Aside0.mk (HT_0.out.below hb)
      have HB_1 := Aside0.mk (bstep HB_0.out hb)
      clear hb
      clear HT_0 HB_0
      obtain ⟨Al, cl, rfl⟩ := Kd.R_slice hRL
      have HCL := Aside0.mk (Kd.R_reads' hRL).2.2
      have HSFa := Aside0.mk (SoF.of hVB hl11)
      have HOL := Aside0.mk (show OkL La from fun b hb => (hVB b hb).2)
      clear hRL hVB
      go_wp2_with fail
      refine (P6Sorted_c Al cl La _ HCL.out HOL.out (by omega)).mono ?_; rintro _ w2 ⟨vs, rfl, hb, hRS⟩
      have HT_2 := Aside0.mk (HT_1.out.below hb)
      have HB_2 := Aside0.mk (bstep HB_1.out hb)
      clear hb
      clear HT_1 HB_1
      generalize Srt.sortL (ltBy usualL) La = Ax at hRS HSFa
      obtain ⟨Aa, da, rfl⟩ := Kd.R_slice hRS
      have la := (Kd.R_reads' hRS).2.1
      have Ha_2 := Aside0.mk (show kBk.C w2 Aa Ax.length Ax from (Kd.R_reads' hRS).2.2)
      clear hRS HCL HOL hl11
      go_wp2_with fail
      refine (P6List_c A1 c1 L1 _ (Kd.C_below HL1.out HB_2.out) HO1.out).mono ?_; rintro _ w3 ⟨vl, rfl, hb, Lb, hRL, hVB, hl11⟩
      have HT_3 := Aside0.mk (HT_2.out.below hb)
      have HB_3 := Aside0.mk (bstep HB_2.out hb)
      have Ha_3 := Aside0.mk (Kd.C_below Ha_2.out hb)
      clear hb
      clear HT_2 HB_2 Ha_2
      obtain ⟨Al, cl, rfl⟩ := Kd.R_slice hRL
      have HCL := Aside0.mk (Kd.R_reads' hRL).2.2
      have HSFb := Aside0.mk (SoF.of hVB hl11)
      have HOL := Aside0.mk (show OkL Lb from fun b hb => (hVB b hb).2)
      clear hRL hVB
      go_wp2_with fail
      refine (P6Sorted_c Al cl Lb _ HCL.out HOL.out (by omega)).mono ?_; rintro _ w4 ⟨vs, rfl, hb, hRS⟩
      have HT_4 := Aside0.mk (HT_3.out.below hb)
      have HB_4 := Aside0.mk (bstep HB_3.out hb)
      have Ha_4 := Aside0.mk (Kd.C_below Ha_3.out hb)
      clear hb
      clear HT_3 HB_3 Ha_3
      generalize Srt.sortL (ltBy usualL) Lb = Bx at hRS HSFb
      obtain ⟨Ab, db, rfl⟩ := Kd.R_slice hRS
      have lb := (Kd.R_reads' hRS).2.1
      have Hb_4 := Aside0.mk (show kBk.C w4 Ab Bx.length Bx from (Kd.R_reads' hRS).2.2)
      clear hRS HCL HOL hl11
      have hr1' : L1.length ≤ 2097152 := by have := HLB1.out; omega
      go_wp2_with (at_builtin; refine u8_append_all (w := w4) rfl (.tmp 51) (.tmp 52) rfl A1 L1.length c1 L1 rfl rfl (Kd.C_below HL1.out HB_4.out) (Below.refl _ _) hr1' ?_; intro vn wn hRN hb; obtain ⟨gn, cn, en, _, _⟩ := Kd.R_form hRN (by simp); subst en; have HRN := Aside0.mk hRN; clear hRN)
      obtain ⟨w5, rfl⟩ : ∃ W : World, W = wn := ⟨_, rfl⟩
      have HT_5 := Aside0.mk (HT_4.out.below hb)
      have HB_5 := Aside0.mk (bstep HB_4.out hb)
      have Ha_5 := Aside0.mk (Kd.C_below Ha_4.out hb)
      have Hb_5 := Aside0.mk (Kd.C_below Hb_4.out hb)
      clear hb
      clear HT_4 HB_4 Ha_4 Hb_4
      have HN := Aside0.mk (show (Kd.int .u8).C w5 (some ⟨gn, 0, none⟩) ([3] ++ L1).length ([3] ++ L1) from (Kd.R_reads' HRN.out).2.2)
      have HNO := Aside0.mk (show ∀ x, x ∈ ([3] ++ L1 : List Int) → 0 ≤ x ∧ x ≤ 255 from fun x hx => by rcases List.mem_append.1 hx with hx | hx; rw [List.mem_singleton.1 hx]; omega; exact HO1.out x hx)
      have HP := Aside0.mk (P6Book_c (some ⟨gn, 0, none⟩) cn ([3] ++ L1) w5 HN.out HNO.out)
      rw [show ([3] ++ L1 : List Int).length = L1.length + 1 by simp] at HP
      clear HRN HN HNO
      refine (HP.out).mono ?_; rintro _ w6 ⟨x, rfl, hvx, hox, hb⟩
      have HT_6 := Aside0.mk (HT_5.out.below hb)
      have HB_6 := Aside0.mk (bstep HB_5.out hb)
      have Ha_6 := Aside0.mk (Kd.C_below Ha_5.out hb)
      have Hb_6 := Aside0.mk (Kd.C_below Hb_5.out hb)
      clear hb
      clear HT_5 HB_5 Ha_5 Hb_5
      have HVX := Aside0.mk hvx
      have HOX := Aside0.mk hox
      simp only [Bk.val]
      clear hvx hox HP
      have hxb := BkAt.box w6 x 30
      have hb : Below w6.heap.size w6 (w6.alloc (.cells #[.int .i16 x.c, .int .u8 x.m0, .int .u8 x.m1, .int .u8 x.m2, .int .i16 x.v, .int .i16 x.wd, .int .i16 x.h, .int .i16 x.wt] 30)) := balloc (Below.refl _ _) _
      obtain ⟨p0, p1, p2, p3, p4, p5, p6, p7⟩ := hxb
      go_wp2_with fail
      clear p0 p1 p2 p3 p4 p5 p6 p7
      have hxb := BkAt.box w6 x 30
      generalize World.alloc w6 _ = w7 at hxb hb ⊢
      have HT_7 := Aside0.mk (HT_6.out.below hb)
      have HB_7 := Aside0.mk (bstep HB_6.out hb)
      have Ha_7 := Aside0.mk (Kd.C_below Ha_6.out hb)
      have Hb_7 := Aside0.mk (Kd.C_below Hb_6.out hb)
      clear hb
      clear HT_6 HB_6 Ha_6 Hb_6
      have HX_7 := Aside0.mk (hxb)
      clear hxb
      obtain ⟨Px, hPx⟩ : ∃ n, w6.heap.size = n := ⟨_, rfl⟩
      rw [hPx] at HX_7 ⊢
      clear hPx
      have HPF := Aside0.mk (fun W h => PlaceFor_c Aa da Ax x W h)
      have HPG := Aside0.mk (fun W h => specPlaceFor_c Aa da Ax x HSFa.out.ok HOX.out W h)
      simp only [(st_pf HSFa.out.val HSFa.out.srt HSFa.out.len HVX.out).1, (st_pf HSFa.out.val HSFa.out.srt HSFa.out.len HVX.out).2] at HPF HPG
      simp only [Bk.val] at HPF HPG
      have hple := place_le x Ax
      obtain ⟨pl, hpl⟩ : ∃ n, placeOf x Ax = n := ⟨_, rfl⟩
      rw [hpl] at HPF HPG hple
      have HPL := Aside0.mk hpl
      clear hpl
      refine (HPF.out _ Ha_7.out).mono ?_; rintro _ w8 ⟨rfl, hb⟩
      have HT_8 := Aside0.mk (HT_7.out.below hb)
      have HB_8 := Aside0.mk (bstep HB_7.out hb)
      have Ha_8 := Aside0.mk (Kd.C_below Ha_7.out hb)
      have Hb_8 := Aside0.mk (Kd.C_below Hb_7.out hb)
      have HX_8 := Aside0.mk (HX_7.out.below hb)
      clear hb
      clear HT_7 HB_7 Ha_7 Hb_7 HX_7
      obtain ⟨p0, p1, p2, p3, p4, p5, p6, p7⟩ := HX_8.out
      go_wp2_with fail
      refine (HPG.out _ Ha_8.out).mono ?_; rintro _ w9 ⟨rfl, hb⟩
      have HT_9 := Aside0.mk (HT_8.out.below hb)
      have HB_9 := Aside0.mk (bstep HB_8.out hb)
      have Ha_9 := Aside0.mk (Kd.C_below Ha_8.out hb)
      have Hb_9 := Aside0.mk (Kd.C_below Hb_8.out hb)
      have HX_9 := Aside0.mk (HX_8.out.below hb)
      clear hb
      clear HT_8 HB_8 Ha_8 Hb_8 HX_8
      clear p0 p1 p2 p3 p4 p5 p6 p7
      have i1 : ¬ ((pl : Int) < 0) := by omega
      have i2 : ¬ ((Ax.length : Int) < (pl : Int)) := by omega
      go_wp2_with fail
      have HPP := Aside0.mk hple
      obtain ⟨hcA, A2, d2, hcB, hCA, hCB⟩ := cut_two Aa da Ax pl hple la
      have HCA := Aside0.mk hCA
      have HCB := Aside0.mk hCB
      have HcA := Aside0.mk hcA
      have HcB := Aside0.mk hcB
      have HLA := Aside0.mk HSFa.out.len
      clear hCA hCB hcA hcB hple i1 i2
      go_upto_region 10 with (fail)
      go_cut [12] from 87 to 100 (fun s12 wx => Aside0 (Below w9.heap.size w9 wx) ∧ Aside0 (kBk.R 30 wx w9.heap.size (fun _ => True) s12 (wideL Ax x)))
      case first =>
        have hKS := kS w9
        refine region_HO (G := KS w9) 11 (by kernel_rfl) (by kernel_rfl) ?_
        have HA := Aside0.mk (show Below w9.heap.size w9 w9.drew from bdrew (Below.refl _ _))
        generalize World.drew w9 = wb at HA ⊢
        obtain ⟨p0, p1, p2, p3, p4, p5, p6, p7⟩ := HX_9.out
        have hcA := HcA.out
        have hcB := HcB.out
        refine HO_take hKS (i := 1) (v := ?_) rfl (by kernel_rfl) (by kernel_rfl) (by kernel_rfl) (by decide) (fun _ _ _ h => h) (fun b' hb' => Or.inl ⟨by kernel_rfl, fun W hW => ?_⟩) ?_
        rotate_left
        · have hW' := bstep (hb' HA.out) hW
          go_simp
          with_reducible rfl
        refine HO_take hKS (i := 2) (v := ?_) rfl (by kernel_rfl) (by kernel_rfl) (by kernel_rfl) (by decide) (fun _ _ _ h => h) (fun b' hb' => Or.inl ⟨by kernel_rfl, fun W hW => ?_⟩) ?_
        rotate_left
        · have hW' := bstep (hb' HA.out) hW
          go_simp
          with_reducible rfl
        refine HO_take hKS (i := 3) (v := ?_) rfl (by kernel_rfl) (by kernel_rfl) (by kernel_rfl) (by decide) (fun _ _ _ h => h) (fun b' hb' => Or.inl ⟨by kernel_rfl, fun W hW => ?_⟩) ?_
        rotate_left
        · have hW' := bstep (hb' HA.out) hW
          go_simp
          with_reducible rfl
        refine HO_take hKS (i := 5) (v := ?_) rfl (by kernel_rfl) (by kernel_rfl) (by kernel_rfl) (by decide) (fun _ _ _ h => h) (fun b' hb' => Or.inl ⟨by kernel_rfl, fun W hW => ?_⟩) ?_
        rotate_left
        · have hW' := bstep (hb' HA.out) hW
          have q_0 := pw_cell_below hW' p0
          have q_1 := pw_cell_below hW' p1
          have q_2 := pw_cell_below hW' p2
          have q_3 := pw_cell_below hW' p3
          have q_4 := pw_cell_below hW' p4
          have q_5 := pw_cell_below hW' p5
          have q_6 := pw_cell_below hW' p6
          have q_7 := pw_cell_below hW' p7
          go_simp
          with_reducible rfl
        refine HO_take hKS (i := 8) (v := ?_) rfl (by kernel_rfl) (by kernel_rfl) (by kernel_rfl) (by decide) (fun _ _ _ h => h) (fun b' hb' => Or.inl ⟨by kernel_rfl, fun W hW => ?_⟩) ?_
        rotate_left
        · have hW' := bstep (hb' HA.out) hW
          go_simp
          with_reducible rfl
        refine HO_take hKS (i := 9) (v := ?_) rfl (by kernel_rfl) (by kernel_rfl) (by kernel_rfl) (by decide) (fun _ _ _ h => h) (fun b' hb' => Or.inl ⟨by kernel_rfl, fun W hW => ?_⟩) ?_
        rotate_left
        · have hW' := bstep (hb' HA.out) hW
          go_simp
          with_reducible rfl
        refine HO_take hKS (i := 10) (v := ?_) rfl (by kernel_rfl) (by kernel_rfl) (by kernel_rfl) (by decide) (fun _ _ _ h => h) (fun b' hb' => Or.inl ⟨by kernel_rfl, fun W hW => ?_⟩) ?_
        rotate_left
        · have hW' := bstep (hb' HA.out) hW
          go_simp
          with_reducible rfl
        clear p0 p1 p2 p3 p4 p5 p6 p7 hcA hcB
        refine HO_step2 (i := 0) (j := 6) rfl rfl (by kernel_rfl) (by decide) (by decide) (by kernel_rfl) (by kernel_rfl) (fun W hW K hK => ?_) (fun W hW K hK => ?_)
        · skip
          have HA0 := Aside0.mk (bstep HA.out hW)
          go_simp
          refine hK _ _ (hKS.of (balloc (Below.refl _ _) _)) ?_
          clear hK K
          have HA0b := Aside0.mk (balloc HA0.out (.cells #[] 30))
          have HR0 := Aside0.mk (R_zero kBk 30 W w9.heap.size (fun _ => True) HA0.out.size trivial)
          obtain ⟨g0, hg0⟩ : ∃ n, W.heap.size = n := ⟨_, rfl⟩
          rw [hg0] at HR0 ⊢
          have hg0l := Aside0.mk (show g0 < (W.alloc (.cells #[] 30)).heap.size by rw [← hg0]; simp)
          clear hg0 hW
          generalize World.alloc W _ = W0b at HA0b HR0 hg0l ⊢
          refine HO_step2 (i := 4) (j := 6) rfl rfl (by kernel_rfl) (by decide) (by decide) (by kernel_rfl) (by kernel_rfl) (fun W hW K hK => ?_) (fun W hW K hK => ?_)
          · skip
            have HA4 := Aside0.mk (bstep HA0b.out hW)
            refine app_rows_wp (W0 := w9) rfl (.tmp 89) (.tmp 92) rfl (.slice (some ⟨g0, 0, none⟩) 0 0) [] (Ax.take pl) Aa pl da rfl rfl (Kd.R_below HR0.out hW) (HCA.out _ (Kd.C_below Ha_9.out HA4.out)) HA4.out (by have := HPP.out; have := HLA.out; simp; omega) ?_
            intro v4 W4 hR4 hB4 hg4
            refine hK _ _ (fun _ => hB4) ?_
            clear hK K
            have HR4 := Aside0.mk (show kBk.R 30 W4 w9.heap.size (fun _ => True) v4 (Ax.take pl) from hR4)
            have HA4b := Aside0.mk hB4
            clear hR4 hB4 hg4 hW
            refine HO_step (i := 6) rfl (by kernel_rfl) (by decide) (by kernel_rfl) (fun W hW K hK => ?_)
            have HA6 := Aside0.mk (bstep HA4b.out hW)
            go_simp
            refine hK _ _ (hKS.of (balloc (Below.refl _ _) _)) ?_
            clear hK K
            have HA6b := Aside0.mk (balloc HA6.out (.cells (Bk.cells x).toArray 30))
            have HG6 := Aside0.mk (blk_new W (.cells (Bk.cells x).toArray 30))
            have HR4b := Aside0.mk (Kd.R_alloc (Kd.R_below HR4.out hW) (.cells (Bk.cells x).toArray 30))
            obtain ⟨g6, hg6⟩ : ∃ n, W.heap.size = n := ⟨_, rfl⟩
            rw [hg6] at HG6 ⊢
            clear hg6 hW
            change HO _ _ _ _ _ _ _ _ _ (W.alloc (.cells (Bk.cells x).toArray 30))
            generalize hWA : World.alloc W (.cells (Bk.cells x).toArray 30) = W6b at HA6b HG6 HR4b ⊢
            clear hWA
            refine HO_step (i := 7) rfl (by kernel_rfl) (by decide) (by kernel_rfl) (fun W hW K hK => ?_)
            have HA7 := Aside0.mk (bstep HA6b.out hW)
            refine app_rows_wp (W0 := w9) rfl (.tmp 93) (.tmp 95) rfl _ (Ax.take pl) [x] (some ⟨g6, 0, none⟩) 1 1 rfl rfl (Kd.R_below HR4b.out hW) (bk1_C (blk_below HG6.out hW)) HA7.out (by rw [List.length_take]; have := HLA.out; omega) ?_
            intro v7 W7 hR7 hB7 _
            refine hK _ _ (fun _ => hB7) ?_
            clear hK K
            have HR7 := Aside0.mk hR7
            have HA7b := Aside0.mk hB7
            clear hR7 hB7 hW
            refine HO_end (by kernel_rfl) (fun W8 hW8 => ?_)
            have HA8 := Aside0.mk (bstep HA7b.out hW8)
            have HR8 := Aside0.mk (Kd.R_below HR7.out hW8)
            have hlw : (Ax.take pl ++ [x]).length ≤ 1000 := by have := HLA.out; simp; omega
            clear hW8
            simp only [List.drop_succ_cons, List.drop_zero]
            go_wp2_with (at_builtin; refine bk_append_rows (w := w9) rfl (.tmp 96) (.tmp 99) rfl _ (Ax.take pl ++ [x]) A2 (Ax.length - pl) d2 (Ax.drop pl) rfl rfl HR8.out (HCB.out _ (Kd.C_below Ha_9.out HA8.out)) HA8.out (by have := HLA.out; simp; omega) ?_; intro v9 W9 hR9 hB9)
            go_meet
            exact ⟨⟨hB9⟩, ⟨by have h9 := hR9; rw [List.append_assoc] at h9; unfold wideL; rw [HPL.out]; exact h9⟩⟩
          · skip
            have HA6 := Aside0.mk (bstep HA0b.out hW)
            go_simp
            refine hK _ _ (hKS.of (balloc (Below.refl _ _) _)) ?_
            clear hK K
            have HA6b := Aside0.mk (balloc HA6.out (.cells (Bk.cells x).toArray 30))
            have HG6 := Aside0.mk (blk_new W (.cells (Bk.cells x).toArray 30))
            have HR0b := Aside0.mk (Kd.R_alloc (Kd.R_below HR0.out hW) (.cells (Bk.cells x).toArray 30))
            have HNE := Aside0.mk (show g0 ≠ W.heap.size by have := hg0l.out; have := hW.size; omega)
            obtain ⟨g6, hg6⟩ : ∃ n, W.heap.size = n := ⟨_, rfl⟩
            rw [hg6] at HG6 HNE ⊢
            clear hg6 hW
            change HO _ _ _ _ _ _ _ _ _ (W.alloc (.cells (Bk.cells x).toArray 30))
            generalize hWA : World.alloc W (.cells (Bk.cells x).toArray 30) = W6b at HA6b HG6 HR0b ⊢
            clear hWA
            refine HO_step (i := 4) rfl (by kernel_rfl) (by decide) (by kernel_rfl) (fun W hW K hK => ?_)
            have HA4 := Aside0.mk (bstep HA6b.out hW)
            refine app_rows_wp (W0 := w9) rfl (.tmp 89) (.tmp 92) rfl (.slice (some ⟨g0, 0, none⟩) 0 0) [] (Ax.take pl) Aa pl da rfl rfl (Kd.R_below HR0b.out hW) (HCA.out _ (Kd.C_below Ha_9.out HA4.out)) HA4.out (by have := HPP.out; have := HLA.out; simp; omega) ?_
            intro v4 W4 hR4 hB4 hg4
            refine hK _ _ (fun _ => hB4) ?_
            clear hK K
            have HR4 := Aside0.mk (show kBk.R 30 W4 w9.heap.size (fun _ => True) v4 (Ax.take pl) from hR4)
            have HA4b := Aside0.mk hB4
            have HG6c := Aside0.mk (blk_grown (blk_below HG6.out hW) hg4 (fun e => by have := HNE.out; simp [Value.ownBlock] at e; omega))
            clear hR4 hB4 hg4 hW
            refine HO_step (i := 7) rfl (by kernel_rfl) (by decide) (by kernel_rfl) (fun W hW K hK => ?_)
            have HA7 := Aside0.mk (bstep HA4b.out hW)
            refine app_rows_wp (W0 := w9) rfl (.tmp 93) (.tmp 95) rfl _ (Ax.take pl) [x] (some ⟨g6, 0, none⟩) 1 1 rfl rfl (Kd.R_below HR4.out hW) (bk1_C (blk_below HG6c.out hW)) HA7.out (by rw [List.length_take]; have := HLA.out; omega) ?_
            intro v7 W7 hR7 hB7 _
            refine hK _ _ (fun _ => hB7) ?_
            clear hK K
            have HR7 := Aside0.mk hR7
            have HA7b := Aside0.mk hB7
            clear hR7 hB7 hW
            refine HO_end (by kernel_rfl) (fun W8 hW8 => ?_)
            have HA8 := Aside0.mk (bstep HA7b.out hW8)
            have HR8 := Aside0.mk (Kd.R_below HR7.out hW8)
            have hlw : (Ax.take pl ++ [x]).length ≤ 1000 := by have := HLA.out; simp; omega
            clear hW8
            simp only [List.drop_succ_cons, List.drop_zero]
            go_wp2_with (at_builtin; refine bk_append_rows (w := w9) rfl (.tmp 96) (.tmp 99) rfl _ (Ax.take pl ++ [x]) A2 (Ax.length - pl) d2 (Ax.drop pl) rfl rfl HR8.out (HCB.out _ (Kd.C_below Ha_9.out HA8.out)) HA8.out (by have := HLA.out; simp; omega) ?_; intro v9 W9 hR9 hB9)
            go_meet
            exact ⟨⟨hB9⟩, ⟨by have h9 := hR9; rw [List.append_assoc] at h9; unfold wideL; rw [HPL.out]; exact h9⟩⟩
        · skip
          have HA6 := Aside0.mk (bstep HA.out hW)
          go_simp
          refine hK _ _ (hKS.of (balloc (Below.refl _ _) _)) ?_
          clear hK K
          have HA6b := Aside0.mk (balloc HA6.out (.cells (Bk.cells x).toArray 30))
          have HG6 := Aside0.mk (blk_new W (.cells (Bk.cells x).toArray 30))
          obtain ⟨g6, hg6⟩ : ∃ n, W.heap.size = n := ⟨_, rfl⟩
          rw [hg6] at HG6 ⊢
          clear hg6 hW
          change HO _ _ _ _ _ _ _ _ _ (W.alloc (.cells (Bk.cells x).toArray 30))
          generalize hWA : World.alloc W (.cells (Bk.cells x).toArray 30) = W6b at HA6b HG6 ⊢
          clear hWA
          refine HO_step (i := 0) rfl (by kernel_rfl) (by decide) (by kernel_rfl) (fun W hW K hK => ?_)
          have HA0 := Aside0.mk (bstep HA6b.out hW)
          go_simp
          refine hK _ _ (hKS.of (balloc (Below.refl _ _) _)) ?_
          clear hK K
          have HA0b := Aside0.mk (balloc HA0.out (.cells #[] 30))
          have HR0 := Aside0.mk (R_zero kBk 30 W w9.heap.size (fun _ => True) HA0.out.size trivial)
          have HNE := Aside0.mk (show W.heap.size ≠ g6 by have := blk_lt (blk_below HG6.out hW); omega)
          have HG6 := Aside0.mk (blk_alloc (blk_below HG6.out hW) (.cells #[] 30))
          obtain ⟨g0, hg0⟩ : ∃ n, W.heap.size = n := ⟨_, rfl⟩
          rw [hg0] at HR0 HNE ⊢
          have hg0l := Aside0.mk (show g0 < (W.alloc (.cells #[] 30)).heap.size by rw [← hg0]; simp)
          clear hg0 hW
          generalize World.alloc W _ = W0b at HA0b HR0 hg0l HG6 ⊢
          refine HO_step (i := 4) rfl (by kernel_rfl) (by decide) (by kernel_rfl) (fun W hW K hK => ?_)
          have HA4 := Aside0.mk (bstep HA0b.out hW)
          refine app_rows_wp (W0 := w9) rfl (.tmp 89) (.tmp 92) rfl (.slice (some ⟨g0, 0, none⟩) 0 0) [] (Ax.take pl) Aa pl da rfl rfl (Kd.R_below HR0.out hW) (HCA.out _ (Kd.C_below Ha_9.out HA4.out)) HA4.out (by have := HPP.out; have := HLA.out; simp; omega) ?_
          intro v4 W4 hR4 hB4 hg4
          refine hK _ _ (fun _ => hB4) ?_
          clear hK K
          have HR4 := Aside0.mk (show kBk.R 30 W4 w9.heap.size (fun _ => True) v4 (Ax.take pl) from hR4)
          have HA4b := Aside0.mk hB4
          have HG6c := Aside0.mk (blk_grown (blk_below HG6.out hW) hg4 (fun e => by have := HNE.out; simp [Value.ownBlock] at e; omega))
          clear hR4 hB4 hg4 hW
          refine HO_step (i := 7) rfl (by kernel_rfl) (by decide) (by kernel_rfl) (fun W hW K hK => ?_)
          have HA7 := Aside0.mk (bstep HA4b.out hW)
          refine app_rows_wp (W0 := w9) rfl (.tmp 93) (.tmp 95) rfl _ (Ax.take pl) [x] (some ⟨g6, 0, none⟩) 1 1 rfl rfl (Kd.R_below HR4.out hW) (bk1_C (blk_below HG6c.out hW)) HA7.out (by rw [List.length_take]; have := HLA.out; omega) ?_
          intro v7 W7 hR7 hB7 _
          refine hK _ _ (fun _ => hB7) ?_
          clear hK K
          have HR7 := Aside0.mk hR7
          have HA7b := Aside0.mk hB7
          clear hR7 hB7 hW
          refine HO_end (by kernel_rfl) (fun W8 hW8 => ?_)
          have HA8 := Aside0.mk (bstep HA7b.out hW8)
          have HR8 := Aside0.mk (Kd.R_below HR7.out hW8)
          have hlw : (Ax.take pl ++ [x]).length ≤ 1000 := by have := HLA.out; simp; omega
          clear hW8
          simp only [List.drop_succ_cons, List.drop_zero]
          go_wp2_with (at_builtin; refine bk_append_rows (w := w9) rfl (.tmp 96) (.tmp 99) rfl _ (Ax.take pl ++ [x]) A2 (Ax.length - pl) d2 (Ax.drop pl) rfl rfl HR8.out (HCB.out _ (Kd.C_below Ha_9.out HA8.out)) HA8.out (by have := HLA.out; simp; omega) ?_; intro v9 W9 hR9 hB9)
          go_meet
          exact ⟨⟨hB9⟩, ⟨by have h9 := hR9; rw [List.append_assoc] at h9; unfold wideL; rw [HPL.out]; exact h9⟩⟩
      case rest =>
        obtain ⟨hb0, hRW⟩ := hcut
        obtain ⟨w10, rfl⟩ : ∃ W : World, W = wc := ⟨_, rfl⟩
        have hb := hb0.out
        clear hb0
        have HT_10 := Aside0.mk (HT_9.out.below hb)
        have HB_10 := Aside0.mk (bstep HB_9.out hb)
        have Ha_10 := Aside0.mk (Kd.C_below Ha_9.out hb)
        have Hb_10 := Aside0.mk (Kd.C_below Hb_9.out hb)
        have HX_10 := Aside0.mk (HX_9.out.below hb)
        clear hb
        clear HT_9 HB_9 Ha_9 Hb_9 HX_9
        obtain ⟨ki, hWF⟩ := WdF.of HSFa.out HVX.out
        have HWF := Aside0.mk hWF
        clear hWF
        generalize wideL Ax x = Wd at hRW HWF
        obtain ⟨Aw, dw, rfl⟩ := Kd.R_slice hRW.out
        have lw := (Kd.R_reads' hRW.out).2.1
        have Hw_10 := Aside0.mk (show kBk.C w10 Aw Wd.length Wd from (Kd.R_reads' hRW.out).2.2)
        clear hRW
        have HIW := Aside0.mk (fun W h => IsSorted_c Aw dw Wd W h)
        simp only [HWF.out.val, HWF.out.srt, HWF.out.e, Bool.and_self] at HIW
        have HFB := Aside0.mk (fun W h => FindBook_c Aw dw Wd x.c (markS x) x.v W h)
        simp only [HWF.out.fv, HWF.out.fe] at HFB
        go_wp2_with fail
        refine (HIW.out _ Hw_10.out).mono ?_; rintro _ w11 ⟨rfl, hb⟩
        have HT_11 := Aside0.mk (HT_10.out.below hb)
        have HB_11 := Aside0.mk (bstep HB_10.out hb)
        have Ha_11 := Aside0.mk (Kd.C_below Ha_10.out hb)
        have Hb_11 := Aside0.mk (Kd.C_below Hb_10.out hb)
        have HX_11 := Aside0.mk (HX_10.out.below hb)
        have Hw_11 := Aside0.mk (Kd.C_below Hw_10.out hb)
        clear hb
        clear HT_10 HB_10 Ha_10 Hb_10 HX_10 Hw_10
        obtain ⟨p0, p1, p2, p3, p4, p5, p6, p7⟩ := HX_11.out
        have xO0 : ∀ p : Over w11, _ := Over.cell p0
        have xO4 : ∀ p : Over w11, _ := Over.cell p4
        have hcv : ∀ p : Over w11, (convert 22 9 (.slice (some ⟨Px, 1, none⟩) 3 3)).run Tryz.prog p.W = .ok (.string (markS x)) p.W := fun p => mark_conv0 (HX_11.out.below p.h) 3
        have hw1 : IntKind.i64.wrap x.c = x.c := by have := HOX.out.1; unfold I16 at this; rw [IntKind.wrap_i64]; omega
        have hw2 : IntKind.i64.wrap x.v = x.v := by have := HOX.out.2.2.2.2.1; unfold I16 at this; rw [IntKind.wrap_i64]; omega
        go_wp2_with fail
        refine region_over (by kernel_rfl) (by kernel_rfl) ?_
        repeat (go_big_quiet_step (first | (go_at_call 11; exact Calls.over_of (HFB.out _ (Kd.C_below Hw_11.out (Over.h _))))))
        refine wpQuiet_nil ?_
        intro w12 hw'
        have hq_w12 := over_out hw'
        clear hw'
        have hb := hq_w12
        clear hq_w12 p0 p1 p2 p3 p4 p5 p6 p7 xO0 xO4 hcv hw1 hw2
        have HT_12 := Aside0.mk (HT_11.out.below hb)
        have HB_12 := Aside0.mk (bstep HB_11.out hb)
        have Ha_12 := Aside0.mk (Kd.C_below Ha_11.out hb)
        have Hb_12 := Aside0.mk (Kd.C_below Hb_11.out hb)
        have HX_12 := Aside0.mk (HX_11.out.below hb)
        have Hw_12 := Aside0.mk (Kd.C_below Hw_11.out hb)
        clear hb
        clear HT_11 HB_11 Ha_11 Hb_11 HX_11 Hw_11
        go_upto_region 13 with (fail)
        go_cut [161] from 120 to 160 (fun s161 wx => s161 = .bool false ∧ Aside0 (Below w12.heap.size w12 wx))
        case first =>
          as_aux_lemma =>
            have kb : ki ≤ 1000 := by have := HWF.out.lt; have := HWF.out.len; have := HSFa.out.len; omega
            have j1 : ¬ ((ki : Int) < 0) := by omega
            have j2 : decide ((ki : Int) < 0) = false := decide_eq_false j1
            have j3 : ¬ ((pl : Int) < (ki : Int)) := by have := HWF.out.le; have := HPL.out; omega
            have j4 : decide ((pl : Int) < (ki : Int)) = false := decide_eq_false j3
            have j5 : ¬ (pl < ki) := by omega
            have j6 : decide (pl < ki) = false := decide_eq_false j5
            have k1 : (ki : Int) < (Wd.length : Int) := by have := HWF.out.lt; omega
            have k0 : (0 : Int) ≤ (ki : Int) := by omega
            obtain ⟨p0, p1, p2, p3, p4, p5, p6, p7⟩ := HX_12.out
            have pO0 : ∀ p : Over w12, _ := Over.cell p0
            have pO1 : ∀ p : Over w12, _ := Over.cell p1
            have pO2 : ∀ p : Over w12, _ := Over.cell p2
            have pO3 : ∀ p : Over w12, _ := Over.cell p3
            have pO4 : ∀ p : Over w12, _ := Over.cell p4
            have pO5 : ∀ p : Over w12, _ := Over.cell p5
            have pO6 : ∀ p : Over w12, _ := Over.cell p6
            have pO7 : ∀ p : Over w12, _ := Over.cell p7
            obtain ⟨adW, y, rfl, hy, y0, y1, y2, y3, y4, y5, y6, y7⟩ := at_bk Hw_12.out ki HWF.out.lt
            have yO0 : ∀ p : Over w12, _ := Over.cell y0
            have yO1 : ∀ p : Over w12, _ := Over.cell y1
            have yO2 : ∀ p : Over w12, _ := Over.cell y2
            have yO3 : ∀ p : Over w12, _ := Over.cell y3
            have yO4 : ∀ p : Over w12, _ := Over.cell y4
            have yO5 : ∀ p : Over w12, _ := Over.cell y5
            have yO6 : ∀ p : Over w12, _ := Over.cell y6
            have yO7 : ∀ p : Over w12, _ := Over.cell y7
            have HCY := Aside0.mk (fun W => CompareBooks_c y x W)
            simp only [HWF.out.yes y hy.out, Bk.val] at HCY
            by_cases hk0 : ki = 0
            · have l1 : ¬ ((0 : Int) < (ki : Int)) := by omega
              have l2 : decide ((0 : Int) < (ki : Int)) = false := decide_eq_false l1
              have l3 : ¬ (0 < ki) := by omega
              have l4 : decide (0 < ki) = false := decide_eq_false l3
              clear hk0
              go_wp2_with fail
              refine region_over (by kernel_rfl) (by kernel_rfl) ?_
              repeat (go_big_quiet_step (first | (go_at_call_of 12 (Value.agg #[.int .i16 y.c, .int .u8 y.m0, .int .u8 y.m1, .int .u8 y.m2, .int .i16 y.v, .int .i16 y.wd, .int .i16 y.h, .int .i16 y.wt]); exact Calls.over_of (HCY.out _))))
              refine wpQuiet_nil ?_
              intro wq hw'
              have hq_wq := over_out hw'
              clear hw'
              go_wp2
              go_meet
              exact ⟨rfl, ⟨hq_wq⟩⟩
            · have l1 : ((0 : Int) < (ki : Int)) := by omega
              have l2 : decide ((0 : Int) < (ki : Int)) = true := decide_eq_true l1
              have l3 : (0 < ki) := by omega
              have l4 : decide (0 < ki) = true := decide_eq_true l3
              obtain ⟨adU, u, e1, hu, u0, u1, u2, u3, u4, u5, u6, u7⟩ := at_bk Hw_12.out (ki - 1) (by have := HWF.out.lt; omega)
              cases e1
              have uO0 : ∀ p : Over w12, _ := Over.cell u0
              have uO1 : ∀ p : Over w12, _ := Over.cell u1
              have uO2 : ∀ p : Over w12, _ := Over.cell u2
              have uO3 : ∀ p : Over w12, _ := Over.cell u3
              have uO4 : ∀ p : Over w12, _ := Over.cell u4
              have uO5 : ∀ p : Over w12, _ := Over.cell u5
              have uO6 : ∀ p : Over w12, _ := Over.cell u6
              have uO7 : ∀ p : Over w12, _ := Over.cell u7
              have HCU := Aside0.mk (fun W => CompareBooks_c u x W)
              simp only [Bk.val] at HCU
              have hr0 : cmpU u x ≠ 0 := HWF.out.no u (by omega) hu.out
              generalize cmpU u x = r at HCU hr0
              have q6 : (r == 0) = false := beq_eq_false_iff_ne.2 hr0
              have m0 : (1 : Int) ≤ (ki : Int) := by omega
              have m1 : ((ki : Int) - 1).toNat = ki - 1 := by omega
              have m2 : (0 : Int) ≤ (ki : Int) - 1 := by omega
              have m3 : (ki : Int) - 1 < (Wd.length : Int) := by omega
              have m4 : IntKind.i64.wrap ((ki : Int) - 1) = (ki : Int) - 1 := by rw [IntKind.wrap_i64]; omega
              clear hk0
              go_wp2_with fail
              refine region_over (by kernel_rfl) (by kernel_rfl) ?_
              repeat (go_big_quiet_step (first | (go_at_call_of 12 (Value.agg #[.int .i16 y.c, .int .u8 y.m0, .int .u8 y.m1, .int .u8 y.m2, .int .i16 y.v, .int .i16 y.wd, .int .i16 y.h, .int .i16 y.wt]); exact Calls.over_of (HCY.out _)) | (go_at_call_of 12 (Value.agg #[.int .i16 u.c, .int .u8 u.m0, .int .u8 u.m1, .int .u8 u.m2, .int .i16 u.v, .int .i16 u.wd, .int .i16 u.h, .int .i16 u.wt]); exact Calls.over_of (HCU.out _))))
              refine wpQuiet_nil ?_
              intro wq hw'
              have hq_wq := over_out hw'
              clear hw'
              go_wp2
              go_meet
              exact ⟨rfl, ⟨hq_wq⟩⟩
        case rest =>
          obtain ⟨rfl, hb0⟩ := hcut
          obtain ⟨w13, rfl⟩ : ∃ W : World, W = wc := ⟨_, rfl⟩
          have hb := hb0.out
          clear hb0
          have HT_13 := Aside0.mk (HT_12.out.below hb)
          have HB_13 := Aside0.mk (bstep HB_12.out hb)
          have Ha_13 := Aside0.mk (Kd.C_below Ha_12.out hb)
          have Hb_13 := Aside0.mk (Kd.C_below Hb_12.out hb)
          have HX_13 := Aside0.mk (HX_12.out.below hb)
          have Hw_13 := Aside0.mk (Kd.C_below Hw_12.out hb)
          clear hb
          clear HT_12 HB_12 Ha_12 Hb_12 HX_12 Hw_12
          go_upto_region 15 with (fail)
          go_cut [174] from 162 to 173 (fun s174 wx => s174 = .bool false ∧ Aside0 (Below w13.heap.size w13 wx))
          case first =>
            as_aux_lemma =>
              obtain ⟨p0, p1, p2, p3, p4, p5, p6, p7⟩ := HX_13.out
              have pO0 : ∀ p : Over w13, _ := Over.cell p0
              have pO1 : ∀ p : Over w13, _ := Over.cell p1
              have pO2 : ∀ p : Over w13, _ := Over.cell p2
              have pO3 : ∀ p : Over w13, _ := Over.cell p3
              have pO4 : ∀ p : Over w13, _ := Over.cell p4
              have pO5 : ∀ p : Over w13, _ := Over.cell p5
              have pO6 : ∀ p : Over w13, _ := Over.cell p6
              have pO7 : ∀ p : Over w13, _ := Over.cell p7
              by_cases hpl : pl < Ax.length
              · have l1 : ((pl : Int) < (Ax.length : Int)) := by omega
                have l2 : decide ((pl : Int) < (Ax.length : Int)) = true := decide_eq_true l1
                have l3 : decide (pl < Ax.length) = true := decide_eq_true hpl
                have l0 : (0 : Int) ≤ (pl : Int) := by omega
                obtain ⟨adA, y, rfl, hy, y0, y1, y2, y3, y4, y5, y6, y7⟩ := at_bk Ha_13.out pl hpl
                have yO0 : ∀ p : Over w13, _ := Over.cell y0
                have yO1 : ∀ p : Over w13, _ := Over.cell y1
                have yO2 : ∀ p : Over w13, _ := Over.cell y2
                have yO3 : ∀ p : Over w13, _ := Over.cell y3
                have yO4 : ∀ p : Over w13, _ := Over.cell y4
                have yO5 : ∀ p : Over w13, _ := Over.cell y5
                have yO6 : ∀ p : Over w13, _ := Over.cell y6
                have yO7 : ∀ p : Over w13, _ := Over.cell y7
                have HCY := Aside0.mk (fun W => CompareBooks_c y x W)
                simp only [Bk.val] at HCY
                have hr0 : 0 < cmpU y x := place_gt (by rw [HPL.out]; exact hy.out)
                generalize cmpU y x = r at HCY hr0
                have q6 : ¬ (r ≤ 0) := by omega
                have q7 : decide (r ≤ 0) = false := decide_eq_false q6
                go_wp2_with fail
                refine region_over (by kernel_rfl) (by kernel_rfl) ?_
                repeat (go_big_quiet_step (first | (go_at_call_of 12 (Value.agg #[.int .i16 y.c, .int .u8 y.m0, .int .u8 y.m1, .int .u8 y.m2, .int .i16 y.v, .int .i16 y.wd, .int .i16 y.h, .int .i16 y.wt]); exact Calls.over_of (HCY.out _))))
                refine wpQuiet_nil ?_
                intro wq hw'
                have hq_wq := over_out hw'
                clear hw'
                go_wp2
                go_meet
                exact ⟨rfl, ⟨hq_wq⟩⟩
              · have l1 : ¬ ((pl : Int) < (Ax.length : Int)) := by omega
                have l2 : decide ((pl : Int) < (Ax.length : Int)) = false := decide_eq_false l1
                have l3 : decide (pl < Ax.length) = false := decide_eq_false hpl
                go_wp2_with fail
                refine region_over (by kernel_rfl) (by kernel_rfl) ?_
                repeat (go_big_quiet_step (fail))
                refine wpQuiet_nil ?_
                intro wq hw'
                have hq_wq := over_out hw'
                clear hw'
                go_wp2
                go_meet
                exact ⟨rfl, ⟨hq_wq⟩⟩
          case rest =>
            obtain ⟨rfl, hb0⟩ := hcut
            obtain ⟨w14, rfl⟩ : ∃ W : World, W = wc := ⟨_, rfl⟩
            have hb := hb0.out
            clear hb0
            have HT_14 := Aside0.mk (HT_13.out.below hb)
            have HB_14 := Aside0.mk (bstep HB_13.out hb)
            have Ha_14 := Aside0.mk (Kd.C_below Ha_13.out hb)
            have Hb_14 := Aside0.mk (Kd.C_below Hb_13.out hb)
            have HX_14 := Aside0.mk (HX_13.out.below hb)
            have Hw_14 := Aside0.mk (Kd.C_below Hw_13.out hb)
            clear hb
            clear HT_13 HB_13 Ha_13 Hb_13 HX_13 Hw_13
            have HMG := Aside0.mk (MgF.of HSFa.out.val HSFb.out.val HSFa.out.srt HSFb.out.srt HSFa.out.len HSFb.out.len HSFa.out.ok HSFb.out.ok)
            generalize Srt.sortL (ltBy usualL) (Ax ++ Bx) = M at HMG
            have HMI := Aside0.mk (fun W h1 h2 => MergeBooks_c Aa Ab da db Ax Bx W h1 h2)
            have HMS := Aside0.mk (fun W h1 h2 => specMergeBooks_c Aa Ab da db Ax Bx HSFa.out.ok HSFb.out.ok W h1 h2)
            simp only [HMG.out.v, HMG.out.e] at HMI HMS
            have HIM := Aside0.mk (fun A c W h => IsSorted_c A c M W h)
            simp only [HMG.out.val, HMG.out.srt, eV_t HMG.out.val, Bool.and_self] at HIM
            have HSM := Aside0.mk (fun A A' c c' W h1 h2 => specSameBooks_c A A' c c' M M W h1 h2)
            simp only [show decide (M = M) = true from decide_eq_true rfl] at HSM
            go_wp2_with fail
            refine (HMI.out _ Ha_14.out Hb_14.out).mono ?_; rintro _ w15 ⟨_, rfl, hb, vbo, rfl, hv⟩
            have HT_15 := Aside0.mk (HT_14.out.below hb)
            have HB_15 := Aside0.mk (bstep HB_14.out hb)
            have Ha_15 := Aside0.mk (Kd.C_below Ha_14.out hb)
            have Hb_15 := Aside0.mk (Kd.C_below Hb_14.out hb)
            have HX_15 := Aside0.mk (HX_14.out.below hb)
            clear hb
            clear HT_14 HB_14 Ha_14 Hb_14 HX_14
            obtain ⟨Abo, dbo, rfl, lbo⟩ : ∃ A d, vbo = .slice A M.length d ∧ M.length ≤ d := by obtain ⟨A, d, e1, e2, _⟩ := Kd.R_reads hv; exact ⟨A, d, e1, e2⟩
            have Hbo_15 := Aside0.mk (show kBk.C w15 Abo M.length M from (Kd.R_reads' hv).2.2)
            clear hv
            go_wp2_with fail
            refine (HMS.out _ Ha_15.out Hb_15.out).mono ?_; rintro _ w16 ⟨_, rfl, hb, vmo, rfl, hv⟩
            have HT_16 := Aside0.mk (HT_15.out.below hb)
            have HB_16 := Aside0.mk (bstep HB_15.out hb)
            have Ha_16 := Aside0.mk (Kd.C_below Ha_15.out hb)
            have Hb_16 := Aside0.mk (Kd.C_below Hb_15.out hb)
            have HX_16 := Aside0.mk (HX_15.out.below hb)
            have Hbo_16 := Aside0.mk (Kd.C_below Hbo_15.out hb)
            clear hb
            clear HT_15 HB_15 Ha_15 Hb_15 HX_15 Hbo_15
            obtain ⟨Amo, dmo, rfl, lmo⟩ : ∃ A d, vmo = .slice A M.length d ∧ M.length ≤ d := by obtain ⟨A, d, e1, e2, _⟩ := Kd.R_reads hv; exact ⟨A, d, e1, e2⟩
            have Hmo_16 := Aside0.mk (show kBk.C w16 Amo M.length M from (Kd.R_reads' hv).2.2)
            clear hv
            go_wp2_with fail
            refine (HIM.out _ _ _ Hmo_16.out).mono ?_; rintro _ w17 ⟨rfl, hb⟩
            have HT_17 := Aside0.mk (HT_16.out.below hb)
            have HB_17 := Aside0.mk (bstep HB_16.out hb)
            have Ha_17 := Aside0.mk (Kd.C_below Ha_16.out hb)
            have Hb_17 := Aside0.mk (Kd.C_below Hb_16.out hb)
            have HX_17 := Aside0.mk (HX_16.out.below hb)
            have Hbo_17 := Aside0.mk (Kd.C_below Hbo_16.out hb)
            have Hmo_17 := Aside0.mk (Kd.C_below Hmo_16.out hb)
            clear hb
            clear HT_16 HB_16 Ha_16 Hb_16 HX_16 Hbo_16 Hmo_16
            have n1 : IntKind.i64.wrap ((Ax.length : Int) + (Bx.length : Int)) = (Ax.length : Int) + (Bx.length : Int) := by have := HSFa.out.len; have := HSFb.out.len; rw [IntKind.wrap_i64]; omega
            have n2 : ((M.length : Int) != (Ax.length : Int) + (Bx.length : Int)) = false := by have := HMG.out.len; simp; omega
            go_wp2_with fail
            refine (HSM.out _ _ _ _ _ Hbo_17.out Hmo_17.out).mono ?_; rintro _ w18 ⟨rfl, hb⟩
            have HT_18 := Aside0.mk (HT_17.out.below hb)
            have HB_18 := Aside0.mk (bstep HB_17.out hb)
            have Ha_18 := Aside0.mk (Kd.C_below Ha_17.out hb)
            have Hb_18 := Aside0.mk (Kd.C_below Hb_17.out hb)
            have HX_18 := Aside0.mk (HX_17.out.below hb)
            have Hbo_18 := Aside0.mk (Kd.C_below Hbo_17.out hb)
            have Hmo_18 := Aside0.mk (Kd.C_below Hmo_17.out hb)
            clear hb
            clear HT_17 HB_17 Ha_17 Hb_17 HX_17 Hbo_17 Hmo_17
            go_wp2_with fail
            clear n1 n2 HMI HMS HIM HSM HIW HFB HPF HPG
            have HC1 := Aside0.mk (fun (b : Bk) W h => CountOf_c Amo dmo M b W h (by have := HMG.out.len; have := HSFa.out.len; have := HSFb.out.len; omega))
            have HC2 := Aside0.mk (fun (b : Bk) W h => CountOf_c Aa da Ax b W h (by have := HSFa.out.len; omega))
            have HC3 := Aside0.mk (fun (b : Bk) W h => CountOf_c Ab db Bx b W h (by have := HSFb.out.len; omega))
            simp only [Bk.val] at HC1 HC2 HC3
            go_loopg [23] Ax.length (fun gk v23 wr => ∃ i : Nat, i + gk = Ax.length ∧ v23 = .int .i64 i ∧ Aside0 (Below w18.heap.size w18 wr))
            case atStart => exact ⟨0, by omega, rfl, ⟨Below.refl _ _⟩⟩
            case round =>
              obtain ⟨i, hk, rfl, HZ⟩ := hrel
              have HK := Aside0.mk hk
              by_cases hlt : i < Ax.length
              · obtain ⟨adL, y, rfl, hy, y0, y1, y2, y3, y4, y5, y6, y7⟩ := at_bk (Kd.C_below Ha_18.out HZ.out) i hlt
                have yO0 : ∀ p : Over wr, _ := Over.cell y0
                have yO1 : ∀ p : Over wr, _ := Over.cell y1
                have yO2 : ∀ p : Over wr, _ := Over.cell y2
                have yO3 : ∀ p : Over wr, _ := Over.cell y3
                have yO4 : ∀ p : Over wr, _ := Over.cell y4
                have yO5 : ∀ p : Over wr, _ := Over.cell y5
                have yO6 : ∀ p : Over wr, _ := Over.cell y6
                have yO7 : ∀ p : Over wr, _ := Over.cell y7
                have HN := Aside0.mk (HMG.out.cnt y)
                have cb1 : cntB Ax y ≤ 1000 := Nat.le_trans (cntB_le _ _) (by have := HSFa.out.len; omega)
                have cb2 : cntB Bx y ≤ 1000 := Nat.le_trans (cntB_le _ _) (by have := HSFb.out.len; omega)
                have HD1 := Aside0.mk (HC1.out y)
                have HD2 := Aside0.mk (HC2.out y)
                have HD3 := Aside0.mk (HC3.out y)
                simp only [HN.out, Int.natCast_add] at HD1
                clear HN
                generalize cntB Ax y = p at HD1 HD2 cb1
                generalize cntB Bx y = q at HD1 HD3 cb2
                have q1 : IntKind.i64.wrap ((p : Int) + (q : Int)) = (p : Int) + (q : Int) := by rw [IntKind.wrap_i64]; omega
                have q2 : ((p : Int) + (q : Int) != (p : Int) + (q : Int)) = false := by simp
                have i0 : (0 : Int) ≤ (i : Int) := by omega
                have i1 : (i : Int) < (Ax.length : Int) := by omega
                have i9 : i ≤ 1000 := by have := HSFa.out.len; omega
                clear hk
                go_wp2_with fail
                refine region_over (by kernel_rfl) (by kernel_rfl) ?_
                repeat (go_big_quiet_step (first | (go_at_call_of 16 (Value.slice Amo M.length dmo); exact Calls.over_of (HD1.out _ (Kd.C_below Hmo_18.out (HZ.out.trans ((Over.h _).mono HZ.out.size))))) | (go_at_call_of 16 (Value.slice (some adL) Ax.length da); exact Calls.over_of (HD2.out _ (Kd.C_below Ha_18.out (HZ.out.trans ((Over.h _).mono HZ.out.size))))) | (go_at_call_of 16 (Value.slice Ab Bx.length db); exact Calls.over_of (HD3.out _ (Kd.C_below Hb_18.out (HZ.out.trans ((Over.h _).mono HZ.out.size)))))))
                refine wpQuiet_nil ?_
                intro wa hw'
                have hq_wa := over_out hw'
                clear hw'
                have HZa := Aside0.mk (bstep HZ.out hq_wa)
                clear hq_wa yO0 yO1 yO2 yO3 yO4 yO5 yO6 yO7 y0 y1 y2 y3 y4 y5 y6 y7 HD1 HD2 HD3
                go_wp2
                go_roundg (gk - 1)
                case measure => have := HK.out; omega
                case rel => exact ⟨i + 1, by have := HK.out; omega, by go_num, HZa⟩
              · have hni : ¬ ((i : Int) < (Ax.length : Int)) := by omega
                clear hk hlt HC1 HC2 HC3
                obtain ⟨w19, rfl⟩ : ∃ W : World, W = wr := ⟨_, rfl⟩
                have hb := HZ.out
                have HT_19 := Aside0.mk (HT_18.out.below hb)
                have HB_19 := Aside0.mk (bstep HB_18.out hb)
                have Ha_19 := Aside0.mk (Kd.C_below Ha_18.out hb)
                have Hb_19 := Aside0.mk (Kd.C_below Hb_18.out hb)
                have HX_19 := Aside0.mk (HX_18.out.below hb)
                have Hmo_19 := Aside0.mk (Kd.C_below Hmo_18.out hb)
                clear hb
                clear HT_18 HB_18 Ha_18 Hb_18 HX_18 Hmo_18
                go_wp2_with fail
                refine (P6Pick_c A0 c0 L0 8 (by omega) (by omega) _ (Kd.C_below HL0.out HB_19.out) HO0.out).mono ?_; rintro _ w20 ⟨lp, rfl, lp0, lp1, hb⟩
                have HT_20 := Aside0.mk (HT_19.out.below hb)
                have HB_20 := Aside0.mk (bstep HB_19.out hb)
                have HX_20 := Aside0.mk (HX_19.out.below hb)
                have Hmo_20 := Aside0.mk (Kd.C_below Hmo_19.out hb)
                clear hb
                clear HT_19 HB_19 HX_19 Hmo_19
                have m1 : IntKind.i64.wrap (100 * lp) = 100 * lp := by rw [IntKind.wrap_i64]; omega
                go_wp2_with fail
                refine (P6Pick_c A1 c1 L1 5 (by omega) (by omega) _ (Kd.C_below HL1.out HB_20.out) HO1.out).mono ?_; rintro _ w21 ⟨lq, rfl, lq0, lq1, hb⟩
                have HT_21 := Aside0.mk (HT_20.out.below hb)
                have HB_21 := Aside0.mk (bstep HB_20.out hb)
                have HX_21 := Aside0.mk (HX_20.out.below hb)
                have Hmo_21 := Aside0.mk (Kd.C_below Hmo_20.out hb)
                clear hb
                clear HT_20 HB_20 HX_20 Hmo_20
                have m2 : IntKind.i64.wrap (50 * lq) = 50 * lq := by rw [IntKind.wrap_i64]; omega
                have m3 : IntKind.i64.wrap (100 * lp + 50 * lq) = 100 * lp + 50 * lq := by rw [IntKind.wrap_i64]; omega
                obtain ⟨cp, cq, hCF⟩ := ClF.of (low := 100 * lp) (high := 100 * lp + 50 * lq) HMG.out.val HMG.out.srt (by omega) (by omega) (by omega)
                have HCF := Aside0.mk hCF
                clear hCF
                have HCR := Aside0.mk (fun W h => ClassRange_c Amo dmo M (100 * lp) (100 * lp + 50 * lq) W h)
                simp only [HCF.out.f, HCF.out.t, HCF.out.e] at HCR
                go_wp2_with fail
                refine (HCR.out _ Hmo_21.out).mono ?_; rintro _ w22 ⟨rfl, hb⟩
                have HT_22 := Aside0.mk (HT_21.out.below hb)
                have HB_22 := Aside0.mk (bstep HB_21.out hb)
                have HX_22 := Aside0.mk (HX_21.out.below hb)
                have Hmo_22 := Aside0.mk (Kd.C_below Hmo_21.out hb)
                clear hb
                clear HT_21 HB_21 HX_21 Hmo_21
                have j1 : ¬ ((cp : Int) < 0) := by omega
                have j2 : ¬ ((cq : Int) < (cp : Int)) := by have := HCF.out.le; omega
                have j3 : ¬ ((M.length : Int) < (cq : Int)) := by have := HCF.out.ln; omega
                have j5 : ¬ (cq < cp) := by omega
                have j6 : ¬ (M.length < cq) := by omega
                go_wp2_with fail
                clear j1 j2 j3 j5 j6 HCR
                go_loopg [29] M.length (fun gk v29 wr => ∃ i : Nat, i + gk = M.length ∧ v29 = .int .i64 i ∧ Aside0 (Below w22.heap.size w22 wr))
                case atStart => exact ⟨0, by omega, rfl, ⟨Below.refl _ _⟩⟩
                case round =>
                  obtain ⟨i, hk, rfl, HZ⟩ := hrel
                  have HK := Aside0.mk hk
                  by_cases hlt : i < M.length
                  · obtain ⟨adL, y, rfl, hy, y0, y1, y2, y3, y4, y5, y6, y7⟩ := at_bk (Kd.C_below Hmo_22.out HZ.out) i hlt
                    have HLO := Aside0.mk (HCF.out.lo i y hy.out)
                    have HHI := Aside0.mk (HCF.out.hi i y hy.out)
                    have i0 : (0 : Int) ≤ (i : Int) := by omega
                    have i1 : (i : Int) < (M.length : Int) := by omega
                    have i9 : i ≤ 1000 := by have := HMG.out.len; have := HSFa.out.len; have := HSFb.out.len; omega
                    have hw1 : IntKind.i64.wrap y.c = y.c := by have := (HMG.out.ok y (mem_of hy.out)).1; unfold I16 at this; rw [IntKind.wrap_i64]; omega
                    clear hk
                    go_upto_region 35 with (fail)
                    go_cut [314] from 288 to 313 (fun s314 wx => s314 = .bool false ∧ wr = wx)
                    case first =>
                      as_aux_lemma =>
                        by_cases g1 : 100 * lp ≤ y.c <;> by_cases g2 : y.c ≤ 100 * lp + 50 * lq
                        · have a2 : cp ≤ i := HLO.out.2 g1
                          have a1 : (cp : Int) ≤ (i : Int) := by omega
                          have b2 : i < cq := HHI.out.2 g2
                          have b1 : (i : Int) < (cq : Int) := by omega
                          go_wp2
                          go_meet
                          exact ⟨rfl, rfl⟩
                        · have a2 : cp ≤ i := HLO.out.2 g1
                          have a1 : (cp : Int) ≤ (i : Int) := by omega
                          have b2 : ¬ (i < cq) := fun h => g2 (HHI.out.1 h)
                          have b1 : ¬ ((i : Int) < (cq : Int)) := by omega
                          go_wp2
                          go_meet
                          exact ⟨rfl, rfl⟩
                        · have a2 : ¬ (cp ≤ i) := fun h => g1 (HLO.out.1 h)
                          have a1 : ¬ ((cp : Int) ≤ (i : Int)) := by omega
                          have b2 : i < cq := HHI.out.2 g2
                          have b1 : (i : Int) < (cq : Int) := by omega
                          go_wp2
                          go_meet
                          exact ⟨rfl, rfl⟩
                        · exfalso; omega
                    case rest =>
                      obtain ⟨rfl, rfl⟩ := hcut
                      go_wp2
                      go_roundg (gk - 1)
                      case measure => have := HK.out; omega
                      case rel => exact ⟨i + 1, by have := HK.out; omega, by go_num, HZ⟩
                  · have hni : ¬ ((i : Int) < (M.length : Int)) := by omega
                    clear hk hlt
                    obtain ⟨w23, rfl⟩ : ∃ W : World, W = wr := ⟨_, rfl⟩
                    have hb := HZ.out
                    have HT_23 := Aside0.mk (HT_22.out.below hb)
                    have HB_23 := Aside0.mk (bstep HB_22.out hb)
                    have HX_23 := Aside0.mk (HX_22.out.below hb)
                    have Hmo_23 := Aside0.mk (Kd.C_below Hmo_22.out hb)
                    clear hb
                    clear HT_22 HB_22 HX_22 Hmo_22
                    go_wp2_with fail
                    have HTO := Aside0.mk (fun W h => TotalsOf_c Amo dmo M HMG.out.ok W h)
                    have HCO := Aside0.mk (fun W h => CountByHundreds_c Amo dmo M W h)
                    simp only [(tv_ok HMG.out.val).1, (tv_ok HMG.out.val).2.2] at HTO
                    simp only [(tv_ok HMG.out.val).2.1, (tv_ok HMG.out.val).2.2] at HCO
                    obtain ⟨T, hT⟩ : ∃ T, totL M = T := ⟨_, rfl⟩
                    have HTT := Aside0.mk hT
                    rw [hT] at HTO
                    obtain ⟨n0, n1, n2, n3, n4, n5, n6, n7, n8, n9, hten⟩ := ten (cntL_len M)
                    have HTN := Aside0.mk hten
                    rw [hten] at HCO
                    clear hT hten
                    simp only [T3.cells] at HTO
                    simp only [arr, List.map_cons, List.map_nil] at HCO
                    refine (HTO.out _ Hmo_23.out).mono ?_; rintro _ w24 ⟨rfl, hb⟩
                    have HT_24 := Aside0.mk (HT_23.out.below hb)
                    have HB_24 := Aside0.mk (bstep HB_23.out hb)
                    have HX_24 := Aside0.mk (HX_23.out.below hb)
                    have Hmo_24 := Aside0.mk (Kd.C_below Hmo_23.out hb)
                    clear hb
                    clear HT_23 HB_23 HX_23 Hmo_23
                    go_upto_region 38 with (fail)
                    have hxn := blk_new w24 (.cells #[.int .i64 T.x, .int .i64 T.y, .int .i64 T.z] 45)
                    have hb : Below w24.heap.size w24 (w24.alloc (.cells #[.int .i64 T.x, .int .i64 T.y, .int .i64 T.z] 45)) := balloc (Below.refl _ _) _
                    generalize World.alloc w24 _ = w25 at hxn hb ⊢
                    have HT_25 := Aside0.mk (HT_24.out.below hb)
                    have HB_25 := Aside0.mk (bstep HB_24.out hb)
                    have HX_25 := Aside0.mk (HX_24.out.below hb)
                    have Hmo_25 := Aside0.mk (Kd.C_below Hmo_24.out hb)
                    clear hb
                    clear HT_24 HB_24 HX_24 Hmo_24
                    have Q3_25 := Aside0.mk (hxn)
                    clear hxn
                    obtain ⟨PQ3, hPQ3⟩ : ∃ n, w24.heap.size = n := ⟨_, rfl⟩
                    rw [hPQ3] at Q3_25 ⊢
                    clear hPQ3
                    go_wp2_with fail
                    refine (HCO.out _ Hmo_25.out).mono ?_; rintro _ w26 ⟨rfl, hb⟩
                    have HT_26 := Aside0.mk (HT_25.out.below hb)
                    have HB_26 := Aside0.mk (bstep HB_25.out hb)
                    have HX_26 := Aside0.mk (HX_25.out.below hb)
                    have Hmo_26 := Aside0.mk (Kd.C_below Hmo_25.out hb)
                    have Q3_26 := Aside0.mk (blk_below Q3_25.out hb)
                    clear hb
                    clear HT_25 HB_25 HX_25 Hmo_25 Q3_25
                    go_upto_region 39 with (fail)
                    have hxn := blk_new w26 (.cells #[.int .i64 n0, .int .i64 n1, .int .i64 n2, .int .i64 n3, .int .i64 n4, .int .i64 n5, .int .i64 n6, .int .i64 n7, .int .i64 n8, .int .i64 n9] 48)
                    have hb : Below w26.heap.size w26 (w26.alloc (.cells #[.int .i64 n0, .int .i64 n1, .int .i64 n2, .int .i64 n3, .int .i64 n4, .int .i64 n5, .int .i64 n6, .int .i64 n7, .int .i64 n8, .int .i64 n9] 48)) := balloc (Below.refl _ _) _
                    generalize World.alloc w26 _ = w27 at hxn hb ⊢
                    have HT_27 := Aside0.mk (HT_26.out.below hb)
                    have HB_27 := Aside0.mk (bstep HB_26.out hb)
                    have HX_27 := Aside0.mk (HX_26.out.below hb)
                    have Hmo_27 := Aside0.mk (Kd.C_below Hmo_26.out hb)
                    have Q3_27 := Aside0.mk (blk_below Q3_26.out hb)
                    clear hb
                    clear HT_26 HB_26 HX_26 Hmo_26 Q3_26
                    have Q10_27 := Aside0.mk (hxn)
                    clear hxn
                    obtain ⟨PQ10, hPQ10⟩ : ∃ n, w26.heap.size = n := ⟨_, rfl⟩
                    rw [hPQ10] at Q10_27 ⊢
                    clear hPQ10
                    have H1 := Aside0.mk (blk_alloc (blk_new w27 (.cells #[.int .i64 0, .int .i64 0, .int .i64 0] 45)) (.cells #[.int .i64 0, .int .i64 0, .int .i64 0, .int .i64 0, .int .i64 0, .int .i64 0, .int .i64 0, .int .i64 0, .int .i64 0, .int .i64 0] 48))
                    have hb2 := blk_new (w27.alloc (.cells #[.int .i64 0, .int .i64 0, .int .i64 0] 45)) (.cells #[.int .i64 0, .int .i64 0, .int .i64 0, .int .i64 0, .int .i64 0, .int .i64 0, .int .i64 0, .int .i64 0, .int .i64 0, .int .i64 0] 48)
                    rw [World.size_alloc] at hb2
                    have H2 := Aside0.mk hb2
                    have HV := Aside0.mk (balloc (balloc (Below.refl w27.heap.size w27) (.cells #[.int .i64 0, .int .i64 0, .int .i64 0] 45)) (.cells #[.int .i64 0, .int .i64 0, .int .i64 0, .int .i64 0, .int .i64 0, .int .i64 0, .int .i64 0, .int .i64 0, .int .i64 0, .int .i64 0] 48))
                    clear hb2
                    go_wp2_with fail
                    generalize hWA : World.alloc (World.alloc w27 _) _ = wA at H1 H2 HV ⊢
                    clear hWA
                    go_loopg [36] M.length (fun gk v36 wr => ∃ i : Nat, i + gk = M.length ∧ v36 = .int .i64 i ∧ Aside0 (wr.heap[w27.heap.size]? = some (.cells (totL (M.take i)).cells 45 (0, 0))) ∧ Aside0 (wr.heap[w27.heap.size + 1]? = some (.cells (arr (cntL (M.take i))) 48 (0, 0))) ∧ Aside0 (Below w27.heap.size w27 wr))
                    case atStart => exact ⟨0, by omega, rfl, ⟨H1.out⟩, ⟨H2.out⟩, HV⟩
                    case round =>
                      clear H1 H2 HV
                      obtain ⟨i, hk, rfl, H1, H2, HV⟩ := hrel
                      have HK := Aside0.mk hk
                      by_cases hlt : i < M.length
                      · obtain ⟨ad, b, rfl, hbk, hx⟩ := at_bk' (Kd.C_below Hmo_27.out HV.out) i hlt
                        have HN := Aside0.mk (totL_next hbk.out)
                        have HM := Aside0.mk (cntL_next hbk.out)
                        obtain ⟨⟨i0, i0'⟩, ⟨i1, i1'⟩, ⟨i2, i2'⟩, ⟨i3, i3'⟩, ⟨i4, i4'⟩, ⟨i5, i5'⟩, ⟨i6, i6'⟩, i7, i7'⟩ := HMG.out.ok b (mem_of hbk.out)
                        obtain ⟨z0, z9⟩ := vBooks_class HMG.out.val b (mem_of hbk.out)
                        have j1 : (i : Int) < (M.length : Int) := by omega
                        have j9 : i ≤ 1000 := by have := HMG.out.len; have := HSFa.out.len; have := HSFb.out.len; omega
                        clear hk hx
                        obtain ⟨t, ht⟩ : ∃ t, totL (M.take i) = t := ⟨_, rfl⟩
                        rw [ht] at H1 HN
                        clear ht
                        simp only [T3.cells] at H1
                        obtain ⟨adP, bP, eP, hbkP, hxP⟩ := at_bk' (Kd.C_below Hmo_27.out HV.out) i hlt
                        injection eP with eP
                        subst eP
                        have hbbP := hbkP.out
                        rw [hbk.out] at hbbP
                        injection hbbP with hbbP
                        subst hbbP
                        clear hbkP
                        obtain ⟨x0, x1, x2, x3, x4, x5, x6, x7⟩ := hxP
                        have c0 := blk_cell H1.out 0
                        have c1 := blk_cell H1.out 1
                        have c2 := blk_cell H1.out 2
                        have f0 := blk_frozen H1.out 0
                        have f1 := blk_frozen H1.out 1
                        have f2 := blk_frozen H1.out 2
                        simp only [List.getElem?_toArray, List.getElem?_cons_zero, List.getElem?_cons_succ] at c0 c1 c2
                        go_wp2_with fail
                        go_still_tail 10, (by kernel_rfl)
                        go_wp2_with fail
                        have P1 := Aside0.mk (blk_drew (blk_put H1.out 0 (.int .i64 (wrap64 (t.x + b.wd))) (cs' := #[.int .i64 (wrap64 (t.x + b.wd)), .int .i64 (t.y), .int .i64 (t.z)]) rfl))
                        have P2 := Aside0.mk (blk_drew (blk_far H2.out (p := ⟨w27.heap.size, 0, none⟩) (by simp) (.int .i64 (wrap64 (t.x + b.wd)))))
                        have PV := Aside0.mk (bdrew (Below.setCell HV.out (p := ⟨w27.heap.size, 0, none⟩) (by simp) (.int .i64 (wrap64 (t.x + b.wd)))))
                        clear H1 H2 HV x0 x1 x2 x3 x4 x5 x6 x7 c0 c1 c2 f0 f1 f2
                        generalize World.drew (World.setCell wr _ _) = wP at P1 P2 PV ⊢
                        go_upto_region 45 with (fail)
                        go_cut [] from 343 to 352 (fun wx => Aside0 (wx.heap[w27.heap.size]? = some (.cells #[.int .i64 (wrap64 (t.x + b.wd)), .int .i64 (mx t.y b.h), .int .i64 (t.z)] 45 (0, 0))) ∧ Aside0 (wx.heap[w27.heap.size + 1]? = some (.cells (arr (cntL (M.take i))) 48 (0, 0))) ∧ Aside0 (Below w27.heap.size w27 wx))
                        case first =>
                          as_aux_lemma =>
                            obtain ⟨adP, bP, eP, hbkP, hxP⟩ := at_bk' (Kd.C_below Hmo_27.out PV.out) i hlt
                            injection eP with eP
                            subst eP
                            have hbbP := hbkP.out
                            rw [hbk.out] at hbbP
                            injection hbbP with hbbP
                            subst hbbP
                            clear hbkP
                            obtain ⟨x0, x1, x2, x3, x4, x5, x6, x7⟩ := hxP
                            have c0 := blk_cell P1.out 0
                            have c1 := blk_cell P1.out 1
                            have c2 := blk_cell P1.out 2
                            have f0 := blk_frozen P1.out 0
                            have f1 := blk_frozen P1.out 1
                            have f2 := blk_frozen P1.out 2
                            simp only [List.getElem?_toArray, List.getElem?_cons_zero, List.getElem?_cons_succ] at c0 c1 c2
                            have hwh : IntKind.i64.wrap b.h = b.h := by rw [IntKind.wrap_i64]; omega
                            have HME := Aside0.mk (show mx t.y b.h = max t.y b.h by unfold mx; split <;> omega)
                            go_wp2_with fail
                            go_still_tail 10, (by kernel_rfl)
                            go_wp2_with fail
                            go_meet
                            rw [HME.out]
                            exact ⟨⟨blk_drew (blk_put P1.out 1 (.int .i64 (max t.y b.h)) (cs' := #[.int .i64 (wrap64 (t.x + b.wd)), .int .i64 (max t.y b.h), .int .i64 (t.z)]) rfl)⟩, ⟨blk_drew (blk_far P2.out (p := ⟨w27.heap.size, 1, none⟩) (by simp) (.int .i64 (max t.y b.h)))⟩, ⟨bdrew (Below.setCell PV.out (p := ⟨w27.heap.size, 1, none⟩) (by simp) (.int .i64 (max t.y b.h)))⟩⟩
                        case rest =>
                          clear P1 P2 PV
                          obtain ⟨Q1, Q2, QV⟩ := hcut
                          obtain ⟨wQ, rfl⟩ : ∃ W : World, W = wc := ⟨_, rfl⟩
                          obtain ⟨adP, bP, eP, hbkP, hxP⟩ := at_bk' (Kd.C_below Hmo_27.out QV.out) i hlt
                          injection eP with eP
                          subst eP
                          have hbbP := hbkP.out
                          rw [hbk.out] at hbbP
                          injection hbbP with hbbP
                          subst hbbP
                          clear hbkP
                          obtain ⟨x0, x1, x2, x3, x4, x5, x6, x7⟩ := hxP
                          have c0 := blk_cell Q1.out 0
                          have c1 := blk_cell Q1.out 1
                          have c2 := blk_cell Q1.out 2
                          have f0 := blk_frozen Q1.out 0
                          have f1 := blk_frozen Q1.out 1
                          have f2 := blk_frozen Q1.out 2
                          simp only [List.getElem?_toArray, List.getElem?_cons_zero, List.getElem?_cons_succ] at c0 c1 c2
                          go_wp2_with fail
                          go_still_tail 10, (by kernel_rfl)
                          go_upto_region 47 with (fail)
                          have R1 := Aside0.mk (blk_drew (blk_put Q1.out 2 (.int .i64 (wrap64 (t.z + b.wt))) (cs' := #[.int .i64 (wrap64 (t.x + b.wd)), .int .i64 (mx t.y b.h), .int .i64 (wrap64 (t.z + b.wt))]) rfl))
                          have R2 := Aside0.mk (blk_drew (blk_far Q2.out (p := ⟨w27.heap.size, 2, none⟩) (by simp) (.int .i64 (wrap64 (t.z + b.wt)))))
                          have RV := Aside0.mk (bdrew (Below.setCell QV.out (p := ⟨w27.heap.size, 2, none⟩) (by simp) (.int .i64 (wrap64 (t.z + b.wt)))))
                          clear Q1 Q2 QV x0 x1 x2 x3 x4 x5 x6 x7 c0 c1 c2 f0 f1 f2
                          generalize World.drew (World.setCell wQ _ _) = wR at R1 R2 RV ⊢
                          obtain ⟨adP, bP, eP, hbkP, hxP⟩ := at_bk' (Kd.C_below Hmo_27.out RV.out) i hlt
                          injection eP with eP
                          subst eP
                          have hbbP := hbkP.out
                          rw [hbk.out] at hbbP
                          injection hbbP with hbbP
                          subst hbbP
                          clear hbkP
                          obtain ⟨x0, x1, x2, x3, x4, x5, x6, x7⟩ := hxP
                          have hl := cntL_len (M.take i)
                          obtain ⟨xs, hxs⟩ : ∃ xs, cntL (M.take i) = xs := ⟨_, rfl⟩
                          rw [hxs] at R2 HM hl
                          obtain ⟨q, hq⟩ : ∃ q : Nat, (b.c / 100).toNat = q := ⟨_, rfl⟩
                          have hq9 : q < 10 := by omega
                          have hqw : IntKind.i16.wrap (b.c.tdiv 100) = (q : Int) := by
                            rw [Int.tdiv_eq_ediv_of_nonneg z0, ← hq]
                            simp only [IntKind.wrap, IntKind.bits, IntKind.signed, Bool.true_and, decide_eq_true_eq, ge_iff_le]; split <;> omega
                          have q0 : (0 : Int) ≤ (q : Int) := by omega
                          have q9 : (q : Int) < 10 := by omega
                          have hl2 := blk_lt R2.out
                          have hc0 := (blk_cell R2.out q).trans (arr_at (by omega))
                          have hf0 := blk_frozen R2.out q
                          have HNX := Aside0.mk (show cntStep xs b = xs.set q (wrap64 (xs.getD q 0 + 1)) by unfold cntStep; rw [hq])
                          obtain ⟨n, hn⟩ : ∃ n, xs.getD q 0 = n := ⟨_, rfl⟩
                          rw [hn] at hc0 HNX
                          clear hxs hl hq hn
                          go_wp2
                          go_roundg (gk - 1)
                          case measure => have := HK.out; omega
                          case rel =>
                            refine ⟨i + 1, by have := HK.out; omega, by go_num, ⟨?_⟩, ⟨?_⟩, ⟨?_⟩⟩
                            · rw [HN.out]
                              exact blk_far R1.out (by simp) _
                            · rw [HM.out, HNX.out]
                              have := blk_set R2.out q (.int .i64 (wrap64 (n + 1)))
                              rw [arr_set] at this
                              exact this
                            · exact Below.setCell RV.out (by simp) _
                      · have hni : ¬ ((i : Int) < (M.length : Int)) := by omega
                        have hti : M.take i = M := List.take_of_length_le (by omega)
                        rw [hti, HTT.out] at H1
                        rw [hti, HTN.out] at H2
                        simp only [T3.cells] at H1
                        simp only [arr, List.map_cons, List.map_nil] at H2
                        clear hk hlt hti
                        obtain ⟨w28, rfl⟩ : ∃ W : World, W = wr := ⟨_, rfl⟩
                        have hb := HV.out
                        have HT_28 := Aside0.mk (HT_27.out.below hb)
                        have HB_28 := Aside0.mk (bstep HB_27.out hb)
                        have HX_28 := Aside0.mk (HX_27.out.below hb)
                        have Hmo_28 := Aside0.mk (Kd.C_below Hmo_27.out hb)
                        have Q3_28 := Aside0.mk (blk_below Q3_27.out hb)
                        have Q10_28 := Aside0.mk (blk_below Q10_27.out hb)
                        clear hb
                        clear HT_27 HB_27 HX_27 Hmo_27 Q3_27 Q10_27
                        have S3_28 := H1
                        have S10_28 := H2
                        clear H1 H2 HV
                        have HRD := Aside0.mk (bk_ok (l := bkT x) (b := x) ⟨HVX.out, rfl⟩)
                        have HBTx := Aside0.mk (fun W h => BookText_c x W h)
                        have HRBx := Aside0.mk (fun W h => ReadBook_c (bkT x) (Nat.le_trans (bkT_len (vB1 HVX.out)) (by omega)) W h)
                        have HVBx := Aside0.mk (fun W => ValidBook_c x W)
                        simp only [show tB x = bS (bkT x) by unfold tB; rw [HVX.out]; rfl] at HBTx
                        simp only [HRD.out.1, show bkE (bkT x) = 0 by unfold bkE; rw [if_pos HRD.out.2]] at HRBx
                        simp only [HVX.out] at HVBx
                        simp only [Bk.val] at HBTx HRBx HVBx
                        obtain ⟨p0, p1, p2, p3, p4, p5, p6, p7⟩ := HX_28.out
                        go_wp2_with fail
                        refine (HBTx.out _ HT_28.out.tab).mono ?_; rintro _ w29 ⟨rfl, hb⟩
                        have HT_29 := Aside0.mk (HT_28.out.below hb)
                        have HB_29 := Aside0.mk (bstep HB_28.out hb)
                        have HX_29 := Aside0.mk (HX_28.out.below hb)
                        have Hmo_29 := Aside0.mk (Kd.C_below Hmo_28.out hb)
                        have Q3_29 := Aside0.mk (blk_below Q3_28.out hb)
                        have Q10_29 := Aside0.mk (blk_below Q10_28.out hb)
                        have S3_29 := Aside0.mk (blk_below S3_28.out hb)
                        have S10_29 := Aside0.mk (blk_below S10_28.out hb)
                        clear hb
                        clear HT_28 HB_28 HX_28 Hmo_28 Q3_28 Q10_28 S3_28 S10_28
                        clear p0 p1 p2 p3 p4 p5 p6 p7
                        go_wp2_with fail
                        refine (HRBx.out _ HT_29.out).mono ?_; rintro _ w30 ⟨rfl, hb⟩
                        have HT_30 := Aside0.mk (HT_29.out.below hb)
                        have HB_30 := Aside0.mk (bstep HB_29.out hb)
                        have HX_30 := Aside0.mk (HX_29.out.below hb)
                        have Hmo_30 := Aside0.mk (Kd.C_below Hmo_29.out hb)
                        have Q3_30 := Aside0.mk (blk_below Q3_29.out hb)
                        have Q10_30 := Aside0.mk (blk_below Q10_29.out hb)
                        have S3_30 := Aside0.mk (blk_below S3_29.out hb)
                        have S10_30 := Aside0.mk (blk_below S10_29.out hb)
                        clear hb
                        clear HT_29 HB_29 HX_29 Hmo_29 Q3_29 Q10_29 S3_29 S10_29
                        go_upto_region 49 with (fail)
                        have hxn := BkAt.box w30 x 30
                        have hb : Below w30.heap.size w30 (w30.alloc (.cells #[.int .i16 x.c, .int .u8 x.m0, .int .u8 x.m1, .int .u8 x.m2, .int .i16 x.v, .int .i16 x.wd, .int .i16 x.h, .int .i16 x.wt] 30)) := balloc (Below.refl _ _) _
                        generalize World.alloc w30 _ = w31 at hxn hb ⊢
                        have HT_31 := Aside0.mk (HT_30.out.below hb)
                        have HB_31 := Aside0.mk (bstep HB_30.out hb)
                        have HX_31 := Aside0.mk (HX_30.out.below hb)
                        have Q3_31 := Aside0.mk (blk_below Q3_30.out hb)
                        have Q10_31 := Aside0.mk (blk_below Q10_30.out hb)
                        have S3_31 := Aside0.mk (blk_below S3_30.out hb)
                        have S10_31 := Aside0.mk (blk_below S10_30.out hb)
                        clear hb
                        clear HT_30 HB_30 HX_30 Q3_30 Q10_30 S3_30 S10_30
                        have HY_31 := Aside0.mk (hxn)
                        clear hxn
                        obtain ⟨PY, hPY⟩ : ∃ n, w30.heap.size = n := ⟨_, rfl⟩
                        rw [hPY] at HY_31 ⊢
                        clear hPY
                        obtain ⟨p0, p1, p2, p3, p4, p5, p6, p7⟩ := HX_31.out
                        obtain ⟨y0, y1, y2, y3, y4, y5, y6, y7⟩ := HY_31.out
                        have ac0 := blk_cell Q3_31.out 0
                        have ac1 := blk_cell Q3_31.out 1
                        have ac2 := blk_cell Q3_31.out 2
                        have bc0 := blk_cell S3_31.out 0
                        have bc1 := blk_cell S3_31.out 1
                        have bc2 := blk_cell S3_31.out 2
                        have cc0 := blk_cell Q10_31.out 0
                        have cc1 := blk_cell Q10_31.out 1
                        have cc2 := blk_cell Q10_31.out 2
                        have cc3 := blk_cell Q10_31.out 3
                        have cc4 := blk_cell Q10_31.out 4
                        have cc5 := blk_cell Q10_31.out 5
                        have cc6 := blk_cell Q10_31.out 6
                        have cc7 := blk_cell Q10_31.out 7
                        have cc8 := blk_cell Q10_31.out 8
                        have cc9 := blk_cell Q10_31.out 9
                        have dc0 := blk_cell S10_31.out 0
                        have dc1 := blk_cell S10_31.out 1
                        have dc2 := blk_cell S10_31.out 2
                        have dc3 := blk_cell S10_31.out 3
                        have dc4 := blk_cell S10_31.out 4
                        have dc5 := blk_cell S10_31.out 5
                        have dc6 := blk_cell S10_31.out 6
                        have dc7 := blk_cell S10_31.out 7
                        have dc8 := blk_cell S10_31.out 8
                        have dc9 := blk_cell S10_31.out 9
                        simp only [List.getElem?_toArray, List.getElem?_cons_zero, List.getElem?_cons_succ] at ac0 ac1 ac2 bc0 bc1 bc2 cc0 cc1 cc2 cc3 cc4 cc5 cc6 cc7 cc8 cc9 dc0 dc1 dc2 dc3 dc4 dc5 dc6 dc7 dc8 dc9
                        have e3 := eq3_same T.x T.y T.z
                        have e10 := eq10_same n0 n1 n2 n3 n4 n5 n6 n7 n8 n9
                        have em := mk3_same x.m0 x.m1 x.m2
                        go_wp2_with fail
                        refine (HVBx.out _).mono ?_; rintro _ w32 ⟨rfl, hb⟩
                        have HT_32 := Aside0.mk (HT_31.out.below hb)
                        have HB_32 := Aside0.mk (bstep HB_31.out hb)
                        have HX_32 := Aside0.mk (HX_31.out.below hb)
                        have Q3_32 := Aside0.mk (blk_below Q3_31.out hb)
                        have Q10_32 := Aside0.mk (blk_below Q10_31.out hb)
                        have S3_32 := Aside0.mk (blk_below S3_31.out hb)
                        have S10_32 := Aside0.mk (blk_below S10_31.out hb)
                        have HY_32 := Aside0.mk (HY_31.out.below hb)
                        clear hb
                        clear HT_31 HB_31 HX_31 Q3_31 Q10_31 S3_31 S10_31 HY_31
                        go_wp2
                        go_ret
                        exact ⟨rfl, HB_32.out⟩
end Go.Proofs.YtkilblnlplfknaaGreatDoor
end
