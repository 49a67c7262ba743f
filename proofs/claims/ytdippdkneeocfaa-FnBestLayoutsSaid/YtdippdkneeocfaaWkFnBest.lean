/- The law FnBestLayouts returns true of every input. -/
import Derived.Test.YtdippdkneeocfaaBestX
import Derived.StillTailTactics
import Derived.Still
import Derived.Deep.QuietTactic
import Derived.BigQuiet
import Derived.Deep.RegionHeld3
namespace Go.Proofs.Ytdippdkneeocfaa
open Go.RowKit Go.Proofs.YtdippdkneeocfaaW.PrintWords Go.Proofs.YtdippdkneeocfaaW.PrintMore
set_option linter.unusedVariables false
set_option linter.unusedSimpArgs false
set_option maxRecDepth 100000

set_option maxHeartbeats 16000000 in
theorem FnBestLayouts_c {w : World} (A0 : Option Addr) (c0 : Nat) (L0 : List Int) (hlc0 : L0.length ≤ c0) (hL0 : (Kd.int .u8).C w A0 L0.length L0) (hok0 : ∀ x, x ∈ L0 → 0 ≤ x ∧ x ≤ 255) (A1 : Option Addr) (c1 : Nat) (L1 : List Int) (hlc1 : L1.length ≤ c1) (hL1 : (Kd.int .u8).C w A1 L1.length L1) (hok1 : ∀ x, x ∈ L1 → 0 ≤ x ∧ x ≤ 255) :
    Calls Try.prog 25 #[.slice A0 L0.length c0, .slice A1 L1.length c1] w (Ret w (.bool true)) := by
  have hr0 := Kd.C_max hL0
  have hr1 := Kd.C_max hL1
  have HA := Aside0.mk (a2Long_c A0 A1 L0.length L1.length c0 c1 hr0 hr1 w)
  have HL0 := Aside0.mk hL0
  have HL1 := Aside0.mk hL1
  have HO0 := Aside0.mk hok0
  have HO1 := Aside0.mk hok1
  clear hL0 hL1 hok0 hok1
  by_cases hlong : 3000 < L0.length ∨ 3000 < L1.length
  · rw [decide_eq_true hlong] at HA
    clear hlong
    go_enter Try.func25, Try.ntmps25
    go_wp2_with fail
    refine HA.out.mono ?_; rintro _ w0 ⟨rfl, rfl⟩
    go_wp2
    go_ret
    exact ⟨rfl, Below.refl _ _⟩
  · rw [decide_eq_false hlong] at HA
    clear hlong
    go_enter Try.func25, Try.ntmps25
    go_wp2_with fail
    refine HA.out.mono ?_; rintro _ w0 ⟨rfl, rfl⟩
    go_wp2_with fail
    refine (A2Case_c A0 c0 L0 w HL0.out HO0.out).mono ?_; rintro _ w1 ⟨_, rfl, hb1, k, Ak, ck, rfl, hrow, hv, hok⟩
    have HV := Aside0.mk hv
    have HOK := Aside0.mk hok
    have HC1 := Aside0.mk (Kd.R_reads' hrow).2.2
    have hlk := (Kd.R_reads' hrow).2.1
    have HB1 := Aside0.mk hb1
    simp only [Cs.val]
    clear hv hok hrow hb1 HA
    go_wp2_with fail
    have hx2 := CsAt.box w1 k Ak ck 51
    have hb2 : Below w1.heap.size w1 (w1.alloc (.cells #[.int .i16 k.wd, .int .i32 k.ld, .slice Ak k.hs.length ck] 51)) := balloc (Below.refl _ _) _
    generalize World.alloc w1 _ = w2 at hx2 hb2 ⊢
    generalize w1.heap.size = P at hx2 ⊢
    have HX2 := Aside0.mk hx2
    have HC2 := Aside0.mk (Kd.C_below HC1.out hb2)
    have HB2 := Aside0.mk (bstep HB1.out hb2)
    clear hx2 hb2
    refine (A2Books_c A1 c1 L1 w2 (Kd.C_below HL1.out HB2.out) HO1.out).mono ?_; rintro _ w3 ⟨vl, rfl, hb, L, hRL, hVB, hl8⟩
    obtain ⟨Al, cl, rfl⟩ := Kd.R_slice hRL
    obtain ⟨hvb, hokl⟩ := VB.books hVB hl8
    have HVB := Aside0.mk hvb
    have HOL := Aside0.mk hokl
    have hll := (Kd.R_reads' hRL).2.1
    have HL_3 := Aside0.mk (Kd.R_reads' hRL).2.2
    have HX_3 := Aside0.mk (HX2.out.below hb)
    have HC_3 := Aside0.mk (Kd.C_below HC2.out hb)
    have HB_3 := Aside0.mk (bstep HB2.out hb)
    have HE0 := Aside0.mk (eCL_0 HV.out HVB.out)
    have hm := Kd.C_max HC_3.out
    have hml := Kd.C_max HL_3.out
    have hn1 := (vCase_bd HV.out).n.1
    have hn12 := (vCase_bd HV.out).n.2
    clear hb hRL hVB hvb hokl HC1 HB1 HX2 HC2 HB2
    have HFI := Aside0.mk (fun W h1 h2 => FewestShelves_c k Ak ck Al cl L HOK.out HOL.out hll W h1 h2)
    have HFS := Aside0.mk (fun W h1 h2 => specFewestShelves_c k Ak ck Al cl L HOK.out HOL.out hll W h1 h2)
    have HLI := Aside0.mk (fun W h1 h2 => LeastCost_c k Ak ck Al cl L HOK.out HOL.out hll W h1 h2)
    have HLS := Aside0.mk (fun W h1 h2 => specLeastCost_c k Ak ck Al cl L HOK.out HOL.out hll W h1 h2)
    have HTI := Aside0.mk (fun W h1 h2 => TableOf_c k Ak ck Al cl L HOK.out HOL.out hll W h1 h2)
    have HTS := Aside0.mk (fun W h1 h2 => specTableOf_c k Ak ck Al cl L HOK.out HOL.out hll W h1 h2)
    have HFL := Aside0.mk (fun W h1 h2 => specFillShelves_c k Ak ck Al cl L HOK.out HOL.out hll W h1 h2)
    have HUS := Aside0.mk (fun A2 c2 E W h1 h2 h3 => UsedShelves_c k Ak ck Al cl L A2 c2 E HOK.out HOL.out hll W h1 h2 h3)
    have HCO := Aside0.mk (fun A2 c2 E W h1 h2 h3 => CostOf_c k Ak ck Al cl L A2 c2 E HOK.out HOL.out hll W h1 h2 h3)
    have HCT := Aside0.mk (fun A2 c2 T ht W h1 h2 h3 => CheckTable_c k Ak ck Al cl L A2 c2 T HOK.out HOL.out ht hll W h1 h2 h3)
    have HPC := Aside0.mk (fun A2 c2 T ht W h1 h2 h3 => ProvedCost_c k Ak ck Al cl L A2 c2 T HOK.out HOL.out ht hll W h1 h2 h3)
    have HTAF := Aside0.mk (taF (pzSq (vCase_bd HV.out)) (FitOk.of HVB.out) (vCase_bd HV.out))
    have HPRF := Aside0.mk (prf_yes (taL_proof (vCase_bd HV.out) (FitOk.of HVB.out)))
    have HT64 := Aside0.mk (taL_ok64 HV.out HVB.out)
    rw [to_ok HE0.out, HE0.out] at HTI HTS
    simp only [Cs.val] at HFI HFS HLI HLS HTI HTS HFL HUS HCO HCT HPC
    obtain ⟨T, hT⟩ : ∃ T, taL k (sqL k) L = T := ⟨_, rfl⟩
    have HTE := Aside0.mk hT
    by_cases h00 : tb T 0 0 = -1
    · skip
      have h01 := h00
      rw [← hT] at h01
      have hq := be_none (pz := sqL k) HE0.out h01
      have hu := be_none (pz := usL) HE0.out ((sq_us HV.out HVB.out).1 h01)
      have hf := fs_over HE0.out (fill_none HV.out HVB.out h01)
      have hpc := pc_none HE0.out HPRF.out h01
      rw [hq.1, hq.2.1, hq.2.2] at HLI HLS
      rw [hu.1, hu.2.1, hu.2.2] at HFI HFS
      rw [hf.1, hf.2] at HFL
      have hb0 : (tb T 0 0 == -1) = true := by simp [h00]
      clear h01 hq hu hf
      rw [hT] at HTI HTS HTAF HPRF HT64 hpc
      have HPC0 := Aside0.mk hpc
      have ht0 := HTAF.out.bd 0 0 (by omega) (by omega)
      obtain ⟨r0, hr0, hr0l, hr0a⟩ := HTAF.out.row 0 (by omega)
      have HR0 := Aside0.mk hr0
      have HR0L := Aside0.mk hr0l
      have HR0A := Aside0.mk (hr0a 0 (by omega))
      have htl := HTAF.out.len
      have HTLN := Aside0.mk htl
      clear hT hpc hr0 hr0l hr0a htl h00
      obtain ⟨y0, y1, y2⟩ := HX_3.out
      go_wp2_with fail
      refine (HFI.out _ HC_3.out HL_3.out).mono ?_; rintro _ w4 ⟨_, rfl, hb, vfw, rfl, hvv⟩
      have HX_4 := Aside0.mk ((CsAt.below HX_3.out hb))
      have HC_4 := Aside0.mk ((Kd.C_below HC_3.out hb))
      have HL_4 := Aside0.mk ((Kd.C_below HL_3.out hb))
      have HB_4 := Aside0.mk (bstep HB_3.out hb)
      obtain ⟨Afw, dfw, rfl, lfw⟩ : ∃ A d, vfw = .slice A ([] : List Int).length d ∧ ([] : List Int).length ≤ d := by obtain ⟨A, d, e1, e2, _⟩ := Kd.R_reads hvv; exact ⟨A, d, e1, e2⟩
      have Hfw_4 := Aside0.mk (show (Kd.int .i64).C w4 Afw ([] : List Int).length [] from (Kd.R_reads' hvv).2.2)
      clear hb hvv
      clear y0 y1 y2
      obtain ⟨y0, y1, y2⟩ := HX_4.out
      go_wp2_with fail
      refine (HFS.out _ HC_4.out HL_4.out).mono ?_; rintro _ w5 ⟨_, rfl, hb, vdu, rfl, hvv⟩
      have HX_5 := Aside0.mk ((CsAt.below HX_4.out hb))
      have HC_5 := Aside0.mk ((Kd.C_below HC_4.out hb))
      have HL_5 := Aside0.mk ((Kd.C_below HL_4.out hb))
      have HB_5 := Aside0.mk (bstep HB_4.out hb)
      have Hfw_5 := Aside0.mk ((Kd.C_below Hfw_4.out hb))
      obtain ⟨Adu, ddu, rfl, ldu⟩ : ∃ A d, vdu = .slice A ([] : List Int).length d ∧ ([] : List Int).length ≤ d := by obtain ⟨A, d, e1, e2, _⟩ := Kd.R_reads hvv; exact ⟨A, d, e1, e2⟩
      have Hdu_5 := Aside0.mk (show (Kd.int .i64).C w5 Adu ([] : List Int).length [] from (Kd.R_reads' hvv).2.2)
      clear hb hvv
      clear y0 y1 y2
      obtain ⟨y0, y1, y2⟩ := HX_5.out
      go_wp2_with fail
      refine (HLI.out _ HC_5.out HL_5.out).mono ?_; rintro _ w6 ⟨_, rfl, hb, vbe, rfl, hvv⟩
      have HX_6 := Aside0.mk ((CsAt.below HX_5.out hb))
      have HC_6 := Aside0.mk ((Kd.C_below HC_5.out hb))
      have HL_6 := Aside0.mk ((Kd.C_below HL_5.out hb))
      have HB_6 := Aside0.mk (bstep HB_5.out hb)
      have Hfw_6 := Aside0.mk ((Kd.C_below Hfw_5.out hb))
      have Hdu_6 := Aside0.mk ((Kd.C_below Hdu_5.out hb))
      obtain ⟨Abe, dbe, rfl, lbe⟩ : ∃ A d, vbe = .slice A ([] : List Int).length d ∧ ([] : List Int).length ≤ d := by obtain ⟨A, d, e1, e2, _⟩ := Kd.R_reads hvv; exact ⟨A, d, e1, e2⟩
      have Hbe_6 := Aside0.mk (show (Kd.int .i64).C w6 Abe ([] : List Int).length [] from (Kd.R_reads' hvv).2.2)
      clear hb hvv
      clear y0 y1 y2
      obtain ⟨y0, y1, y2⟩ := HX_6.out
      go_wp2_with fail
      refine (HLS.out _ HC_6.out HL_6.out).mono ?_; rintro _ w7 ⟨_, rfl, hb, vmo, rfl, hvv⟩
      have HX_7 := Aside0.mk ((CsAt.below HX_6.out hb))
      have HC_7 := Aside0.mk ((Kd.C_below HC_6.out hb))
      have HL_7 := Aside0.mk ((Kd.C_below HL_6.out hb))
      have HB_7 := Aside0.mk (bstep HB_6.out hb)
      have Hfw_7 := Aside0.mk ((Kd.C_below Hfw_6.out hb))
      have Hdu_7 := Aside0.mk ((Kd.C_below Hdu_6.out hb))
      have Hbe_7 := Aside0.mk ((Kd.C_below Hbe_6.out hb))
      obtain ⟨Amo, dmo, rfl, lmo⟩ : ∃ A d, vmo = .slice A ([] : List Int).length d ∧ ([] : List Int).length ≤ d := by obtain ⟨A, d, e1, e2, _⟩ := Kd.R_reads hvv; exact ⟨A, d, e1, e2⟩
      have Hmo_7 := Aside0.mk (show (Kd.int .i64).C w7 Amo ([] : List Int).length [] from (Kd.R_reads' hvv).2.2)
      clear hb hvv
      clear y0 y1 y2
      obtain ⟨y0, y1, y2⟩ := HX_7.out
      go_wp2_with fail
      refine (HTI.out _ HC_7.out HL_7.out).mono ?_; rintro _ w8 ⟨_, rfl, hb, vta, Xta, rfl, hvv⟩
      have HX_8 := Aside0.mk ((CsAt.below HX_7.out hb))
      have HC_8 := Aside0.mk ((Kd.C_below HC_7.out hb))
      have HL_8 := Aside0.mk ((Kd.C_below HL_7.out hb))
      have HB_8 := Aside0.mk (bstep HB_7.out hb)
      have Hfw_8 := Aside0.mk ((Kd.C_below Hfw_7.out hb))
      have Hdu_8 := Aside0.mk ((Kd.C_below Hdu_7.out hb))
      have Hbe_8 := Aside0.mk ((Kd.C_below Hbe_7.out hb))
      have Hmo_8 := Aside0.mk ((Kd.C_below Hmo_7.out hb))
      obtain ⟨gta, dta, e9, hg9, _⟩ := Kd.R_form hvv.out (by have := hvv.len; have := HTLN.out; omega)
      rw [hvv.len] at e9
      subst e9
      have Hta_8 := Aside0.mk hvv
      clear hb hvv hg9
      clear y0 y1 y2
      obtain ⟨y0, y1, y2⟩ := HX_8.out
      go_wp2_with fail
      refine (HTS.out _ HC_8.out HL_8.out).mono ?_; rintro _ w9 ⟨_, rfl, hb, vpr, Xpr, rfl, hvv⟩
      have HX_9 := Aside0.mk ((CsAt.below HX_8.out hb))
      have HC_9 := Aside0.mk ((Kd.C_below HC_8.out hb))
      have HL_9 := Aside0.mk ((Kd.C_below HL_8.out hb))
      have HB_9 := Aside0.mk (bstep HB_8.out hb)
      have Hfw_9 := Aside0.mk ((Kd.C_below Hfw_8.out hb))
      have Hdu_9 := Aside0.mk ((Kd.C_below Hdu_8.out hb))
      have Hbe_9 := Aside0.mk ((Kd.C_below Hbe_8.out hb))
      have Hmo_9 := Aside0.mk ((Kd.C_below Hmo_8.out hb))
      have Hta_9 := Aside0.mk ((OwnT.below Hta_8.out hb))
      obtain ⟨gpr, dpr, e9, hg9, _⟩ := Kd.R_form hvv.out (by have := hvv.len; have := HTLN.out; omega)
      rw [hvv.len] at e9
      subst e9
      have Hpr_9 := Aside0.mk hvv
      clear hb hvv hg9
      clear y0 y1 y2
      obtain ⟨y0, y1, y2⟩ := HX_9.out
      go_wp2_with fail
      have hct : ctV k L T = true := by rw [ct_prf HE0.out]; exact HPRF.out
      have HCT1 := Aside0.mk (HCT.out (some ⟨gpr, 0, none⟩) dpr T HT64.out _ HC_9.out HL_9.out Hpr_9.out.reads.2.2)
      rw [hct, HE0.out] at HCT1
      clear hct
      refine (HCT1.out).mono ?_; rintro _ w10 ⟨rfl, hb⟩
      have HX_10 := Aside0.mk ((CsAt.below HX_9.out hb))
      have HC_10 := Aside0.mk ((Kd.C_below HC_9.out hb))
      have HL_10 := Aside0.mk ((Kd.C_below HL_9.out hb))
      have HB_10 := Aside0.mk (bstep HB_9.out hb)
      have Hfw_10 := Aside0.mk ((Kd.C_below Hfw_9.out hb))
      have Hdu_10 := Aside0.mk ((Kd.C_below Hdu_9.out hb))
      have Hbe_10 := Aside0.mk ((Kd.C_below Hbe_9.out hb))
      have Hmo_10 := Aside0.mk ((Kd.C_below Hmo_9.out hb))
      have Hta_10 := Aside0.mk ((OwnT.below Hta_9.out hb))
      have Hpr_10 := Aside0.mk ((OwnT.below Hpr_9.out hb))
      clear hb
      clear y0 y1 y2
      obtain ⟨y0, y1, y2⟩ := HX_10.out
      go_wp2_with fail
      have HPC1 := Aside0.mk (HPC.out (some ⟨gpr, 0, none⟩) dpr T HT64.out _ HC_10.out HL_10.out Hpr_10.out.reads.2.2)
      rw [HPC0.out.1, HPC0.out.2] at HPC1
      refine (HPC1.out).mono ?_; rintro _ w11 ⟨rfl, hb⟩
      have HX_11 := Aside0.mk ((CsAt.below HX_10.out hb))
      have HC_11 := Aside0.mk ((Kd.C_below HC_10.out hb))
      have HL_11 := Aside0.mk ((Kd.C_below HL_10.out hb))
      have HB_11 := Aside0.mk (bstep HB_10.out hb)
      have Hfw_11 := Aside0.mk ((Kd.C_below Hfw_10.out hb))
      have Hdu_11 := Aside0.mk ((Kd.C_below Hdu_10.out hb))
      have Hbe_11 := Aside0.mk ((Kd.C_below Hbe_10.out hb))
      have Hmo_11 := Aside0.mk ((Kd.C_below Hmo_10.out hb))
      have Hta_11 := Aside0.mk ((OwnT.below Hta_10.out hb))
      have Hpr_11 := Aside0.mk ((OwnT.below Hpr_10.out hb))
      clear hb
      clear y0 y1 y2
      obtain ⟨y0, y1, y2⟩ := HX_11.out
      go_wp2_with fail
      have HS1 := Aside0.mk (A2Same_c Afw Adu dfw ddu [] [] _ Hfw_11.out Hdu_11.out)
      rw [decide_eq_true rfl] at HS1
      refine (HS1.out).mono ?_; rintro _ w12 ⟨rfl, hb⟩
      have HX_12 := Aside0.mk ((CsAt.below HX_11.out hb))
      have HC_12 := Aside0.mk ((Kd.C_below HC_11.out hb))
      have HL_12 := Aside0.mk ((Kd.C_below HL_11.out hb))
      have HB_12 := Aside0.mk (bstep HB_11.out hb)
      have Hfw_12 := Aside0.mk ((Kd.C_below Hfw_11.out hb))
      have Hdu_12 := Aside0.mk ((Kd.C_below Hdu_11.out hb))
      have Hbe_12 := Aside0.mk ((Kd.C_below Hbe_11.out hb))
      have Hmo_12 := Aside0.mk ((Kd.C_below Hmo_11.out hb))
      have Hta_12 := Aside0.mk ((OwnT.below Hta_11.out hb))
      have Hpr_12 := Aside0.mk ((OwnT.below Hpr_11.out hb))
      clear hb
      clear y0 y1 y2
      obtain ⟨y0, y1, y2⟩ := HX_12.out
      go_wp2_with fail
      have HS2 := Aside0.mk (A2Same_c Abe Amo dbe dmo [] [] _ Hbe_12.out Hmo_12.out)
      rw [decide_eq_true rfl] at HS2
      refine (HS2.out).mono ?_; rintro _ w13 ⟨rfl, hb⟩
      have HX_13 := Aside0.mk ((CsAt.below HX_12.out hb))
      have HC_13 := Aside0.mk ((Kd.C_below HC_12.out hb))
      have HL_13 := Aside0.mk ((Kd.C_below HL_12.out hb))
      have HB_13 := Aside0.mk (bstep HB_12.out hb)
      have Hfw_13 := Aside0.mk ((Kd.C_below Hfw_12.out hb))
      have Hdu_13 := Aside0.mk ((Kd.C_below Hdu_12.out hb))
      have Hbe_13 := Aside0.mk ((Kd.C_below Hbe_12.out hb))
      have Hmo_13 := Aside0.mk ((Kd.C_below Hmo_12.out hb))
      have Hta_13 := Aside0.mk ((OwnT.below Hta_12.out hb))
      have Hpr_13 := Aside0.mk ((OwnT.below Hpr_12.out hb))
      clear hb
      clear y0 y1 y2
      obtain ⟨y0, y1, y2⟩ := HX_13.out
      go_wp2_with fail
      have HS3 := Aside0.mk (A2SameTable_c (some ⟨gta, 0, none⟩) (some ⟨gpr, 0, none⟩) dta dpr T T _ Hta_13.out.reads.2.2 Hpr_13.out.reads.2.2)
      rw [decide_eq_true rfl] at HS3
      refine (HS3.out).mono ?_; rintro _ w14 ⟨rfl, hb⟩
      have HX_14 := Aside0.mk ((CsAt.below HX_13.out hb))
      have HC_14 := Aside0.mk ((Kd.C_below HC_13.out hb))
      have HL_14 := Aside0.mk ((Kd.C_below HL_13.out hb))
      have HB_14 := Aside0.mk (bstep HB_13.out hb)
      have Hfw_14 := Aside0.mk ((Kd.C_below Hfw_13.out hb))
      have Hdu_14 := Aside0.mk ((Kd.C_below Hdu_13.out hb))
      have Hbe_14 := Aside0.mk ((Kd.C_below Hbe_13.out hb))
      have Hmo_14 := Aside0.mk ((Kd.C_below Hmo_13.out hb))
      have Hta_14 := Aside0.mk ((OwnT.below Hta_13.out hb))
      have Hpr_14 := Aside0.mk ((OwnT.below Hpr_13.out hb))
      clear hb
      clear y0 y1 y2
      obtain ⟨y0, y1, y2⟩ := HX_14.out
      have htl := HTLN.out
      have hr0l := HR0L.out
      obtain ⟨b0, cb0, hX0⟩ := Hpr_14.out.blk (i := 0) HR0.out (by have := HR0L.out; omega)
      have HX0p := Aside0.mk hX0
      have hcg := (Hpr_14.out.cellg hX0).1
      have hcr := (Hpr_14.out.cellr hX0 HR0.out HR0A.out).1
      simp only [SlH.val] at hcg
      clear hX0
      have k1 : ((T.length : Int) == 0) = false := beq_eq_false_iff_ne.2 (by omega)
      have k1' : (T.length == 0) = false := beq_eq_false_iff_ne.2 (by omega)
      have k2 : ((r0.length : Int) == 0) = false := beq_eq_false_iff_ne.2 (by omega)
      have k2' : (r0.length == 0) = false := beq_eq_false_iff_ne.2 (by omega)
      have k3 : (0 : Int) < (T.length : Int) := by omega
      have k4 : (0 : Int) < (r0.length : Int) := by omega
      have k5 : 0 < T.length := by omega
      have k6 : 0 < r0.length := by omega
      clear htl hr0l
      go_wp2_with fail
      refine (HFL.out _ HC_14.out HL_14.out).mono ?_; rintro _ w15 ⟨_, rfl, hb, vfi, rfl, hvv⟩
      have HX_15 := Aside0.mk ((CsAt.below HX_14.out hb))
      have HC_15 := Aside0.mk ((Kd.C_below HC_14.out hb))
      have HL_15 := Aside0.mk ((Kd.C_below HL_14.out hb))
      have HB_15 := Aside0.mk (bstep HB_14.out hb)
      have Hfw_15 := Aside0.mk ((Kd.C_below Hfw_14.out hb))
      have Hdu_15 := Aside0.mk ((Kd.C_below Hdu_14.out hb))
      have Hbe_15 := Aside0.mk ((Kd.C_below Hbe_14.out hb))
      have Hmo_15 := Aside0.mk ((Kd.C_below Hmo_14.out hb))
      have Hta_15 := Aside0.mk ((OwnT.below Hta_14.out hb))
      have Hpr_15 := Aside0.mk ((OwnT.below Hpr_14.out hb))
      clear hb hvv hcg hcr
      have hcg := (Hpr_15.out.cellg HX0p.out).1
      have hcr := (Hpr_15.out.cellr HX0p.out HR0.out HR0A.out).1
      simp only [SlH.val] at hcg
      clear y0 y1 y2
      obtain ⟨y0, y1, y2⟩ := HX_15.out
      go_wp2_with fail
      go_ret
      exact ⟨rfl, HB_15.out⟩
    · skip
      have h01 : tb (taL k (sqL k) L) 0 0 ≠ -1 := by rw [hT]; exact h00
      have h02 : tb (taL k usL L) 0 0 ≠ -1 := fun h => h01 ((sq_us HV.out HVB.out).2 h)
      have hq := be_ok (pz := sqL k) HE0.out h01
      have hu := be_ok (pz := usL) HE0.out h02
      have hpc := pc_ok HE0.out HPRF.out h01
      have HY1 := Aside0.mk (bs_lay (pz := usL) HV.out HVB.out h02)
      have HY2 := Aside0.mk (bs_lay (pz := sqL k) HV.out HVB.out h01)
      have HK1 := Aside0.mk (bs_cost (k := k) (pz := usL) (L := L) h02)
      have HK2 := Aside0.mk (bs_cost (k := k) (pz := sqL k) (L := L) h01)
      have HLO1 := Aside0.mk (fun E (h : LayP k L E) => (lay_low (pzUs k) h).2)
      have HLO2 := Aside0.mk (fun E (h : LayP k L E) => (lay_low (pzSq (vCase_bd HV.out)) h).2)
      have HMORE := Aside0.mk (prf_no (taL_more (vCase_bd HV.out) (FitOk.of HVB.out) h01))
      have HLESS := Aside0.mk (taL_less (vCase_bd HV.out) (FitOk.of HVB.out) h01)
      rw [hq.1, hq.2.1, hq.2.2] at HLI HLS
      rw [hu.1, hu.2.1, hu.2.2] at HFI HFS
      have hl1 := bsEnds_len k usL L (taL k usL L) k.hs.length
      have hl2 := bsEnds_len k (sqL k) L (taL k (sqL k) L) k.hs.length
      rw [hT] at HK2 HLO2 HMORE HLESS
      obtain ⟨E1, hE1⟩ : ∃ E, bsEnds k usL L (taL k usL L) k.hs.length = E := ⟨_, rfl⟩
      obtain ⟨E2, hE2⟩ : ∃ E, bsEnds k (sqL k) L (taL k (sqL k) L) k.hs.length = E := ⟨_, rfl⟩
      rw [hE1] at HFI HFS HY1 HK1 hl1
      rw [hE2] at HLI HLS HY2 hl2
      rw [hT] at hE2
      rw [hE2] at HK2
      obtain ⟨n1, hn1'⟩ : ∃ n, tb (taL k usL L) 0 0 = n := ⟨_, rfl⟩
      rw [hn1'] at HFI HFS HK1 HLO1
      rw [hT] at HLI HLS
      have HU1 := Aside0.mk (show coV k L E1 true = n1 by rw [co_us HY1.out]; exact HK1.out)
      have HU2 := Aside0.mk (show n1 ≤ coV k L E2 true by rw [co_us HY2.out]; exact HLO1.out _ HY2.out)
      have HX1 := Aside0.mk (show tb T 0 0 ≤ coV k L E1 false by rw [co_sq HY1.out]; exact HLO2.out _ HY1.out)
      have HX2 := Aside0.mk (show coV k L E2 false = tb T 0 0 by rw [co_sq HY2.out]; exact HK2.out)
      have hz1 := layC_of HY1.out
      have hz2 := layC_of HY2.out
      clear h01 h02 hq hu hE1 hE2 hn1' hl1 hl2
      rw [hT] at HTI HTS HTAF HPRF HT64 hpc
      have HPC0 := Aside0.mk hpc
      have ht0 := HTAF.out.bd 0 0 (by omega) (by omega)
      obtain ⟨r0, hr0, hr0l, hr0a⟩ := HTAF.out.row 0 (by omega)
      have HR0 := Aside0.mk hr0
      have HR0L := Aside0.mk hr0l
      have HR0A := Aside0.mk (hr0a 0 (by omega))
      have htl := HTAF.out.len
      have HTLN := Aside0.mk htl
      clear hT hpc hr0 hr0l hr0a htl
      obtain ⟨y0, y1, y2⟩ := HX_3.out
      go_wp2_with fail
      refine (HFI.out _ HC_3.out HL_3.out).mono ?_; rintro _ w4 ⟨_, rfl, hb, vfw, rfl, hvv⟩
      have HX_4 := Aside0.mk ((CsAt.below HX_3.out hb))
      have HC_4 := Aside0.mk ((Kd.C_below HC_3.out hb))
      have HL_4 := Aside0.mk ((Kd.C_below HL_3.out hb))
      have HB_4 := Aside0.mk (bstep HB_3.out hb)
      obtain ⟨Afw, dfw, rfl, lfw⟩ : ∃ A d, vfw = .slice A (E1 : List Int).length d ∧ (E1 : List Int).length ≤ d := by obtain ⟨A, d, e1, e2, _⟩ := Kd.R_reads hvv; exact ⟨A, d, e1, e2⟩
      have Hfw_4 := Aside0.mk (show (Kd.int .i64).C w4 Afw (E1 : List Int).length E1 from (Kd.R_reads' hvv).2.2)
      clear hb hvv
      clear y0 y1 y2
      obtain ⟨y0, y1, y2⟩ := HX_4.out
      go_wp2_with fail
      refine (HFS.out _ HC_4.out HL_4.out).mono ?_; rintro _ w5 ⟨_, rfl, hb, vdu, rfl, hvv⟩
      have HX_5 := Aside0.mk ((CsAt.below HX_4.out hb))
      have HC_5 := Aside0.mk ((Kd.C_below HC_4.out hb))
      have HL_5 := Aside0.mk ((Kd.C_below HL_4.out hb))
      have HB_5 := Aside0.mk (bstep HB_4.out hb)
      have Hfw_5 := Aside0.mk ((Kd.C_below Hfw_4.out hb))
      obtain ⟨Adu, ddu, rfl, ldu⟩ : ∃ A d, vdu = .slice A (E1 : List Int).length d ∧ (E1 : List Int).length ≤ d := by obtain ⟨A, d, e1, e2, _⟩ := Kd.R_reads hvv; exact ⟨A, d, e1, e2⟩
      have Hdu_5 := Aside0.mk (show (Kd.int .i64).C w5 Adu (E1 : List Int).length E1 from (Kd.R_reads' hvv).2.2)
      clear hb hvv
      clear y0 y1 y2
      obtain ⟨y0, y1, y2⟩ := HX_5.out
      go_wp2_with fail
      refine (HLI.out _ HC_5.out HL_5.out).mono ?_; rintro _ w6 ⟨_, rfl, hb, vbe, rfl, hvv⟩
      have HX_6 := Aside0.mk ((CsAt.below HX_5.out hb))
      have HC_6 := Aside0.mk ((Kd.C_below HC_5.out hb))
      have HL_6 := Aside0.mk ((Kd.C_below HL_5.out hb))
      have HB_6 := Aside0.mk (bstep HB_5.out hb)
      have Hfw_6 := Aside0.mk ((Kd.C_below Hfw_5.out hb))
      have Hdu_6 := Aside0.mk ((Kd.C_below Hdu_5.out hb))
      obtain ⟨Abe, dbe, rfl, lbe⟩ : ∃ A d, vbe = .slice A (E2 : List Int).length d ∧ (E2 : List Int).length ≤ d := by obtain ⟨A, d, e1, e2, _⟩ := Kd.R_reads hvv; exact ⟨A, d, e1, e2⟩
      have Hbe_6 := Aside0.mk (show (Kd.int .i64).C w6 Abe (E2 : List Int).length E2 from (Kd.R_reads' hvv).2.2)
      clear hb hvv
      clear y0 y1 y2
      obtain ⟨y0, y1, y2⟩ := HX_6.out
      go_wp2_with fail
      refine (HLS.out _ HC_6.out HL_6.out).mono ?_; rintro _ w7 ⟨_, rfl, hb, vmo, rfl, hvv⟩
      have HX_7 := Aside0.mk ((CsAt.below HX_6.out hb))
      have HC_7 := Aside0.mk ((Kd.C_below HC_6.out hb))
      have HL_7 := Aside0.mk ((Kd.C_below HL_6.out hb))
      have HB_7 := Aside0.mk (bstep HB_6.out hb)
      have Hfw_7 := Aside0.mk ((Kd.C_below Hfw_6.out hb))
      have Hdu_7 := Aside0.mk ((Kd.C_below Hdu_6.out hb))
      have Hbe_7 := Aside0.mk ((Kd.C_below Hbe_6.out hb))
      obtain ⟨Amo, dmo, rfl, lmo⟩ : ∃ A d, vmo = .slice A (E2 : List Int).length d ∧ (E2 : List Int).length ≤ d := by obtain ⟨A, d, e1, e2, _⟩ := Kd.R_reads hvv; exact ⟨A, d, e1, e2⟩
      have Hmo_7 := Aside0.mk (show (Kd.int .i64).C w7 Amo (E2 : List Int).length E2 from (Kd.R_reads' hvv).2.2)
      clear hb hvv
      clear y0 y1 y2
      obtain ⟨y0, y1, y2⟩ := HX_7.out
      go_wp2_with fail
      refine (HTI.out _ HC_7.out HL_7.out).mono ?_; rintro _ w8 ⟨_, rfl, hb, vta, Xta, rfl, hvv⟩
      have HX_8 := Aside0.mk ((CsAt.below HX_7.out hb))
      have HC_8 := Aside0.mk ((Kd.C_below HC_7.out hb))
      have HL_8 := Aside0.mk ((Kd.C_below HL_7.out hb))
      have HB_8 := Aside0.mk (bstep HB_7.out hb)
      have Hfw_8 := Aside0.mk ((Kd.C_below Hfw_7.out hb))
      have Hdu_8 := Aside0.mk ((Kd.C_below Hdu_7.out hb))
      have Hbe_8 := Aside0.mk ((Kd.C_below Hbe_7.out hb))
      have Hmo_8 := Aside0.mk ((Kd.C_below Hmo_7.out hb))
      obtain ⟨gta, dta, e9, hg9, _⟩ := Kd.R_form hvv.out (by have := hvv.len; have := HTLN.out; omega)
      rw [hvv.len] at e9
      subst e9
      have Hta_8 := Aside0.mk hvv
      clear hb hvv hg9
      clear y0 y1 y2
      obtain ⟨y0, y1, y2⟩ := HX_8.out
      go_wp2_with fail
      refine (HTS.out _ HC_8.out HL_8.out).mono ?_; rintro _ w9 ⟨_, rfl, hb, vpr, Xpr, rfl, hvv⟩
      have HX_9 := Aside0.mk ((CsAt.below HX_8.out hb))
      have HC_9 := Aside0.mk ((Kd.C_below HC_8.out hb))
      have HL_9 := Aside0.mk ((Kd.C_below HL_8.out hb))
      have HB_9 := Aside0.mk (bstep HB_8.out hb)
      have Hfw_9 := Aside0.mk ((Kd.C_below Hfw_8.out hb))
      have Hdu_9 := Aside0.mk ((Kd.C_below Hdu_8.out hb))
      have Hbe_9 := Aside0.mk ((Kd.C_below Hbe_8.out hb))
      have Hmo_9 := Aside0.mk ((Kd.C_below Hmo_8.out hb))
      have Hta_9 := Aside0.mk ((OwnT.below Hta_8.out hb))
      obtain ⟨gpr, dpr, e9, hg9, _⟩ := Kd.R_form hvv.out (by have := hvv.len; have := HTLN.out; omega)
      rw [hvv.len] at e9
      subst e9
      have Hpr_9 := Aside0.mk hvv
      clear hb hvv hg9
      clear y0 y1 y2
      obtain ⟨y0, y1, y2⟩ := HX_9.out
      go_wp2_with fail
      have hct : ctV k L T = true := by rw [ct_prf HE0.out]; exact HPRF.out
      have HCT1 := Aside0.mk (HCT.out (some ⟨gpr, 0, none⟩) dpr T HT64.out _ HC_9.out HL_9.out Hpr_9.out.reads.2.2)
      rw [hct, HE0.out] at HCT1
      clear hct
      refine (HCT1.out).mono ?_; rintro _ w10 ⟨rfl, hb⟩
      have HX_10 := Aside0.mk ((CsAt.below HX_9.out hb))
      have HC_10 := Aside0.mk ((Kd.C_below HC_9.out hb))
      have HL_10 := Aside0.mk ((Kd.C_below HL_9.out hb))
      have HB_10 := Aside0.mk (bstep HB_9.out hb)
      have Hfw_10 := Aside0.mk ((Kd.C_below Hfw_9.out hb))
      have Hdu_10 := Aside0.mk ((Kd.C_below Hdu_9.out hb))
      have Hbe_10 := Aside0.mk ((Kd.C_below Hbe_9.out hb))
      have Hmo_10 := Aside0.mk ((Kd.C_below Hmo_9.out hb))
      have Hta_10 := Aside0.mk ((OwnT.below Hta_9.out hb))
      have Hpr_10 := Aside0.mk ((OwnT.below Hpr_9.out hb))
      clear hb
      clear y0 y1 y2
      obtain ⟨y0, y1, y2⟩ := HX_10.out
      go_wp2_with fail
      have HPC1 := Aside0.mk (HPC.out (some ⟨gpr, 0, none⟩) dpr T HT64.out _ HC_10.out HL_10.out Hpr_10.out.reads.2.2)
      rw [HPC0.out.1, HPC0.out.2] at HPC1
      refine (HPC1.out).mono ?_; rintro _ w11 ⟨rfl, hb⟩
      have HX_11 := Aside0.mk ((CsAt.below HX_10.out hb))
      have HC_11 := Aside0.mk ((Kd.C_below HC_10.out hb))
      have HL_11 := Aside0.mk ((Kd.C_below HL_10.out hb))
      have HB_11 := Aside0.mk (bstep HB_10.out hb)
      have Hfw_11 := Aside0.mk ((Kd.C_below Hfw_10.out hb))
      have Hdu_11 := Aside0.mk ((Kd.C_below Hdu_10.out hb))
      have Hbe_11 := Aside0.mk ((Kd.C_below Hbe_10.out hb))
      have Hmo_11 := Aside0.mk ((Kd.C_below Hmo_10.out hb))
      have Hta_11 := Aside0.mk ((OwnT.below Hta_10.out hb))
      have Hpr_11 := Aside0.mk ((OwnT.below Hpr_10.out hb))
      clear hb
      clear y0 y1 y2
      obtain ⟨y0, y1, y2⟩ := HX_11.out
      go_wp2_with fail
      have HS1 := Aside0.mk (A2Same_c Afw Adu dfw ddu E1 E1 _ Hfw_11.out Hdu_11.out)
      rw [decide_eq_true rfl] at HS1
      refine (HS1.out).mono ?_; rintro _ w12 ⟨rfl, hb⟩
      have HX_12 := Aside0.mk ((CsAt.below HX_11.out hb))
      have HC_12 := Aside0.mk ((Kd.C_below HC_11.out hb))
      have HL_12 := Aside0.mk ((Kd.C_below HL_11.out hb))
      have HB_12 := Aside0.mk (bstep HB_11.out hb)
      have Hfw_12 := Aside0.mk ((Kd.C_below Hfw_11.out hb))
      have Hdu_12 := Aside0.mk ((Kd.C_below Hdu_11.out hb))
      have Hbe_12 := Aside0.mk ((Kd.C_below Hbe_11.out hb))
      have Hmo_12 := Aside0.mk ((Kd.C_below Hmo_11.out hb))
      have Hta_12 := Aside0.mk ((OwnT.below Hta_11.out hb))
      have Hpr_12 := Aside0.mk ((OwnT.below Hpr_11.out hb))
      clear hb
      clear y0 y1 y2
      obtain ⟨y0, y1, y2⟩ := HX_12.out
      go_wp2_with fail
      have HS2 := Aside0.mk (A2Same_c Abe Amo dbe dmo E2 E2 _ Hbe_12.out Hmo_12.out)
      rw [decide_eq_true rfl] at HS2
      refine (HS2.out).mono ?_; rintro _ w13 ⟨rfl, hb⟩
      have HX_13 := Aside0.mk ((CsAt.below HX_12.out hb))
      have HC_13 := Aside0.mk ((Kd.C_below HC_12.out hb))
      have HL_13 := Aside0.mk ((Kd.C_below HL_12.out hb))
      have HB_13 := Aside0.mk (bstep HB_12.out hb)
      have Hfw_13 := Aside0.mk ((Kd.C_below Hfw_12.out hb))
      have Hdu_13 := Aside0.mk ((Kd.C_below Hdu_12.out hb))
      have Hbe_13 := Aside0.mk ((Kd.C_below Hbe_12.out hb))
      have Hmo_13 := Aside0.mk ((Kd.C_below Hmo_12.out hb))
      have Hta_13 := Aside0.mk ((OwnT.below Hta_12.out hb))
      have Hpr_13 := Aside0.mk ((OwnT.below Hpr_12.out hb))
      clear hb
      clear y0 y1 y2
      obtain ⟨y0, y1, y2⟩ := HX_13.out
      go_wp2_with fail
      have HS3 := Aside0.mk (A2SameTable_c (some ⟨gta, 0, none⟩) (some ⟨gpr, 0, none⟩) dta dpr T T _ Hta_13.out.reads.2.2 Hpr_13.out.reads.2.2)
      rw [decide_eq_true rfl] at HS3
      refine (HS3.out).mono ?_; rintro _ w14 ⟨rfl, hb⟩
      have HX_14 := Aside0.mk ((CsAt.below HX_13.out hb))
      have HC_14 := Aside0.mk ((Kd.C_below HC_13.out hb))
      have HL_14 := Aside0.mk ((Kd.C_below HL_13.out hb))
      have HB_14 := Aside0.mk (bstep HB_13.out hb)
      have Hfw_14 := Aside0.mk ((Kd.C_below Hfw_13.out hb))
      have Hdu_14 := Aside0.mk ((Kd.C_below Hdu_13.out hb))
      have Hbe_14 := Aside0.mk ((Kd.C_below Hbe_13.out hb))
      have Hmo_14 := Aside0.mk ((Kd.C_below Hmo_13.out hb))
      have Hta_14 := Aside0.mk ((OwnT.below Hta_13.out hb))
      have Hpr_14 := Aside0.mk ((OwnT.below Hpr_13.out hb))
      clear hb
      clear y0 y1 y2
      obtain ⟨y0, y1, y2⟩ := HX_14.out
      have htl := HTLN.out
      have hr0l := HR0L.out
      obtain ⟨b0, cb0, hX0⟩ := Hpr_14.out.blk (i := 0) HR0.out (by have := HR0L.out; omega)
      have HX0p := Aside0.mk hX0
      have hcg := (Hpr_14.out.cellg hX0).1
      have hcr := (Hpr_14.out.cellr hX0 HR0.out HR0A.out).1
      simp only [SlH.val] at hcg
      clear hX0
      have k1 : ((T.length : Int) == 0) = false := beq_eq_false_iff_ne.2 (by omega)
      have k1' : (T.length == 0) = false := beq_eq_false_iff_ne.2 (by omega)
      have k2 : ((r0.length : Int) == 0) = false := beq_eq_false_iff_ne.2 (by omega)
      have k2' : (r0.length == 0) = false := beq_eq_false_iff_ne.2 (by omega)
      have k3 : (0 : Int) < (T.length : Int) := by omega
      have k4 : (0 : Int) < (r0.length : Int) := by omega
      have k5 : 0 < T.length := by omega
      have k6 : 0 < r0.length := by omega
      clear htl hr0l
      go_wp2_with fail
      obtain ⟨E3, s6, hE3, hs6, hE6⟩ : ∃ E s, fsV k L = E ∧ fsE k L = s ∧ (s = 6 ∨ (s = 0 ∧ LayP k L E)) := by
        by_cases hfl : flAt k L k.hs.length < L.length
        · exact ⟨_, _, rfl, rfl, .inl (fs_over HE0.out hfl).2⟩
        · refine ⟨_, _, rfl, rfl, .inr ⟨(fs_ok HE0.out hfl).2, ?_⟩⟩
          rw [(fs_ok HE0.out hfl).1]
          exact fl_lay HV.out HVB.out hfl
      rw [hE3, hs6] at HFL
      have HE6 := Aside0.mk hE6
      clear hE3 hs6 hE6 hcg hcr
      refine (HFL.out _ HC_14.out HL_14.out).mono ?_; rintro _ w15 ⟨_, rfl, hb, vfi, rfl, hvv⟩
      have HX_15 := Aside0.mk ((CsAt.below HX_14.out hb))
      have HC_15 := Aside0.mk ((Kd.C_below HC_14.out hb))
      have HL_15 := Aside0.mk ((Kd.C_below HL_14.out hb))
      have HB_15 := Aside0.mk (bstep HB_14.out hb)
      have Hfw_15 := Aside0.mk ((Kd.C_below Hfw_14.out hb))
      have Hdu_15 := Aside0.mk ((Kd.C_below Hdu_14.out hb))
      have Hbe_15 := Aside0.mk ((Kd.C_below Hbe_14.out hb))
      have Hmo_15 := Aside0.mk ((Kd.C_below Hmo_14.out hb))
      have Hta_15 := Aside0.mk ((OwnT.below Hta_14.out hb))
      have Hpr_15 := Aside0.mk ((OwnT.below Hpr_14.out hb))
      obtain ⟨Afi, dfi, rfl, lfi⟩ : ∃ A d, vfi = .slice A E3.length d ∧ E3.length ≤ d := by obtain ⟨A, d, e1, e2, _⟩ := Kd.R_reads hvv; exact ⟨A, d, e1, e2⟩
      have Hfi_15 := Aside0.mk (show (Kd.int .i64).C w15 Afi E3.length E3 from (Kd.R_reads' hvv).2.2)
      clear hb hvv
      clear y0 y1 y2
      obtain ⟨y0, y1, y2⟩ := HX_15.out
      go_wp2_with fail
      have HU1' := Aside0.mk (HUS.out Adu ddu E1 _ HC_15.out HL_15.out Hdu_15.out)
      rw [HU1.out, hz1] at HU1'
      refine (HU1'.out).mono ?_; rintro _ w16 ⟨rfl, hb⟩
      have HX_16 := Aside0.mk ((CsAt.below HX_15.out hb))
      have HC_16 := Aside0.mk ((Kd.C_below HC_15.out hb))
      have HL_16 := Aside0.mk ((Kd.C_below HL_15.out hb))
      have HB_16 := Aside0.mk (bstep HB_15.out hb)
      have Hfw_16 := Aside0.mk ((Kd.C_below Hfw_15.out hb))
      have Hdu_16 := Aside0.mk ((Kd.C_below Hdu_15.out hb))
      have Hbe_16 := Aside0.mk ((Kd.C_below Hbe_15.out hb))
      have Hmo_16 := Aside0.mk ((Kd.C_below Hmo_15.out hb))
      have Hta_16 := Aside0.mk ((OwnT.below Hta_15.out hb))
      have Hpr_16 := Aside0.mk ((OwnT.below Hpr_15.out hb))
      have Hfi_16 := Aside0.mk ((Kd.C_below Hfi_15.out hb))
      clear hb
      clear y0 y1 y2
      obtain ⟨y0, y1, y2⟩ := HX_16.out
      go_wp2_with fail
      obtain ⟨b2, hb2e⟩ : ∃ b, coV k L E2 true = b := ⟨_, rfl⟩
      rw [hb2e] at HU2
      have HU2' := Aside0.mk (HUS.out Amo dmo E2 _ HC_16.out HL_16.out Hmo_16.out)
      rw [hb2e, hz2] at HU2'
      clear hb2e
      refine (HU2'.out).mono ?_; rintro _ w17 ⟨rfl, hb⟩
      have HX_17 := Aside0.mk ((CsAt.below HX_16.out hb))
      have HC_17 := Aside0.mk ((Kd.C_below HC_16.out hb))
      have HL_17 := Aside0.mk ((Kd.C_below HL_16.out hb))
      have HB_17 := Aside0.mk (bstep HB_16.out hb)
      have Hfw_17 := Aside0.mk ((Kd.C_below Hfw_16.out hb))
      have Hdu_17 := Aside0.mk ((Kd.C_below Hdu_16.out hb))
      have Hbe_17 := Aside0.mk ((Kd.C_below Hbe_16.out hb))
      have Hmo_17 := Aside0.mk ((Kd.C_below Hmo_16.out hb))
      have Hta_17 := Aside0.mk ((OwnT.below Hta_16.out hb))
      have Hpr_17 := Aside0.mk ((OwnT.below Hpr_16.out hb))
      have Hfi_17 := Aside0.mk ((Kd.C_below Hfi_16.out hb))
      clear hb
      clear y0 y1 y2
      obtain ⟨y0, y1, y2⟩ := HX_17.out
      go_wp2_with fail
      obtain ⟨x2, hx2e⟩ : ∃ b, coV k L E1 false = b := ⟨_, rfl⟩
      rw [hx2e] at HX1
      have HX1' := Aside0.mk (HCO.out Adu ddu E1 _ HC_17.out HL_17.out Hdu_17.out)
      rw [hx2e, hz1] at HX1'
      clear hx2e
      refine (HX1'.out).mono ?_; rintro _ w18 ⟨rfl, hb⟩
      have HX_18 := Aside0.mk ((CsAt.below HX_17.out hb))
      have HC_18 := Aside0.mk ((Kd.C_below HC_17.out hb))
      have HL_18 := Aside0.mk ((Kd.C_below HL_17.out hb))
      have HB_18 := Aside0.mk (bstep HB_17.out hb)
      have Hfw_18 := Aside0.mk ((Kd.C_below Hfw_17.out hb))
      have Hdu_18 := Aside0.mk ((Kd.C_below Hdu_17.out hb))
      have Hbe_18 := Aside0.mk ((Kd.C_below Hbe_17.out hb))
      have Hmo_18 := Aside0.mk ((Kd.C_below Hmo_17.out hb))
      have Hta_18 := Aside0.mk ((OwnT.below Hta_17.out hb))
      have Hpr_18 := Aside0.mk ((OwnT.below Hpr_17.out hb))
      have Hfi_18 := Aside0.mk ((Kd.C_below Hfi_17.out hb))
      clear hb
      clear y0 y1 y2
      obtain ⟨y0, y1, y2⟩ := HX_18.out
      go_wp2_with fail
      have HX2' := Aside0.mk (HCO.out Amo dmo E2 _ HC_18.out HL_18.out Hmo_18.out)
      rw [HX2.out, hz2] at HX2'
      refine (HX2'.out).mono ?_; rintro _ w19 ⟨rfl, hb⟩
      have HX_19 := Aside0.mk ((CsAt.below HX_18.out hb))
      have HC_19 := Aside0.mk ((Kd.C_below HC_18.out hb))
      have HL_19 := Aside0.mk ((Kd.C_below HL_18.out hb))
      have HB_19 := Aside0.mk (bstep HB_18.out hb)
      have Hfw_19 := Aside0.mk ((Kd.C_below Hfw_18.out hb))
      have Hdu_19 := Aside0.mk ((Kd.C_below Hdu_18.out hb))
      have Hbe_19 := Aside0.mk ((Kd.C_below Hbe_18.out hb))
      have Hmo_19 := Aside0.mk ((Kd.C_below Hmo_18.out hb))
      have Hta_19 := Aside0.mk ((OwnT.below Hta_18.out hb))
      have Hpr_19 := Aside0.mk ((OwnT.below Hpr_18.out hb))
      have Hfi_19 := Aside0.mk ((Kd.C_below Hfi_18.out hb))
      clear hb
      clear y0 y1 y2
      obtain ⟨y0, y1, y2⟩ := HX_19.out
      have q1 : decide (b2 < n1) = false := decide_eq_false (by have := HU2.out; omega)
      have q1' : ¬ (b2 < n1) := by have := HU2.out; omega
      have q2 : decide (x2 < tb T 0 0) = false := decide_eq_false (by have := HX1.out; omega)
      have q2' : ¬ (x2 < tb T 0 0) := by have := HX1.out; omega
      rcases HE6.out with rfl | ⟨rfl, hL3⟩
      · skip
        go_wp2_with fail
        clear y0 y1 y2
        have htl : 1 ≤ T.length ∧ T.length ≤ 13 := by have := HTLN.out; omega
        have hr0l : 1 ≤ r0.length ∧ r0.length ≤ 61 := by have := HR0L.out; omega
        go_loopg [41, 42] T.length (fun gk v41 v42 wr => ∃ s : Nat, ∃ X : List SlH, s + gk = T.length ∧ v42 = .int .i64 s ∧ Aside0 (OwnT w19 wr v41 X (T.take s)) ∧ Aside0 (Below w19.heap.size w19 wr))
        case atStart => exact ⟨0, [], by omega, rfl, ⟨OwnT.zero (Nat.le_refl _)⟩, ⟨balloc (Below.refl _ _) _⟩⟩
        case round =>
          obtain ⟨s, X, hk, rfl, HT, HZ⟩ := hrel
          have HK := Aside0.mk hk
          by_cases hlt : s < T.length
          · obtain ⟨r, hr, hrl, _⟩ := HTAF.out.row s (by have := HTLN.out; omega)
            have HPR := Aside0.mk (Hpr_19.out.below HZ.out)
            obtain ⟨bs, cs, hXs⟩ := HPR.out.blk hr (by omega)
            have hcs := (HPR.out.cellg hXs).1
            have HCR := Aside0.mk (show (Kd.int .i64).C wr (some ⟨bs, 0, none⟩) r.length r from (HPR.out.row s _ r hXs hr).reads)
            have HTS1 := Aside0.mk (show T.take (s + 1) = T.take s ++ [r] from take_snoc hr)
            have HRL := Aside0.mk hrl
            have hxl := HT.out.len
            have HXL := Aside0.mk (show X.length ≤ 1000 by rw [hxl, List.length_take]; omega)
            have i0 : (0 : Int) ≤ (s : Int) := by omega
            have i1 : (s : Int) < (T.length : Int) := by omega
            have hr61 : r.length ≤ 2097152 := by omega
            have hcs2 := ((HPR.out.below (balloc (Below.refl _ _) (.cells #[] 2))).cellg hXs).1
            simp only [SlH.val] at hcs hcs2
            clear hk hXs hr hrl hxl
            go_wp2_with (first | (at_builtin; refine i64_append_all (w := wr) rfl (.tmp 314) (.tmp 318) rfl (some ⟨bs, 0, none⟩) r.length cs r rfl rfl HCR.out (Below.refl _ _) hr61 ?_; intro va wa hRa hBa; obtain ⟨ba, ca, ea, hga, _⟩ := Kd.R_form hRa (by have := HRL.out; omega); subst ea; have HRA := Aside0.mk hRa; have HBA := Aside0.mk hBa; clear hRa hBa hga) | (at_builtin; refine sh_app (W := wa) w19.heap.size (Nat.le_trans HZ.out.size HBA.out.size) rfl (.tmp 313) (.tmp 320) rfl _ X ⟨some ⟨ba, 0, none⟩, r.length, ca⟩ rfl rfl (Kd.R_mono (HT.out.out.below HBA.out) (fun _ _ => trivial)) HXL.out ?_; intro vb wb hRb hGb; have HRB := Aside0.mk hRb; have HGB := Aside0.mk hGb; clear hRb hGb))
            have HTA := Aside0.mk (HT.out.below HBA.out)
            have HAP := Aside0.mk (show ∀ (q : Nat) (y : SlH), X[q]? = some y → Apart y.val (SlH.val ⟨some ⟨ba, 0, none⟩, r.length, ca⟩) from fun q y hy => by
              obtain ⟨rq, hrq⟩ : ∃ rq, (T.take s)[q]? = some rq := ⟨_, List.getElem?_eq_getElem (by rw [← HT.out.len]; exact (List.getElem?_eq_some_iff.1 hy).1)⟩
              exact Apart.new (HT.out.row q y rq hy hrq) HRA.out)
            have HTB := Aside0.mk (show OwnT w19 wb vb _ (T.take (s + 1)) by rw [HTS1.out]; exact OwnT.snoc (x := ⟨some ⟨ba, 0, none⟩, r.length, ca⟩) HTA.out (Kd.R_tight (kInt_E _) (Kd.R_lower HRA.out HZ.out.size)) HAP.out HGB.out HRB.out)
            have HZB := Aside0.mk (pw_below_grown (HZ.out.trans (HBA.out.mono HZ.out.size)) _ (Nat.le_trans HZ.out.size HBA.out.size) HGB.out (fun q hq => Kd.R_base HTA.out.out q hq))
            go_roundg (gk - 1)
            case measure => have := HK.out; omega
            case rel => exact ⟨s + 1, _, by have := HK.out; omega, by go_num, HTB, HZB⟩
          · have HTW := Aside0.mk (show OwnT w19 wr _ X T by have := HT.out; rw [List.take_of_length_le (by omega)] at this; exact this)
            clear HT
            obtain ⟨gw, dw, e9, hg9, _⟩ := Kd.R_form HTW.out.out (by have := HTW.out.len; omega)
            rw [HTW.out.len] at e9
            subst e9
            obtain ⟨bw, cw, hX0⟩ := HTW.out.blk (i := 0) HR0.out (by omega)
            have HXW := Aside0.mk hX0
            have hcg := (HTW.out.cellg hX0).1
            obtain ⟨hcr, hfr⟩ := HTW.out.cellr hX0 HR0.out HR0A.out
            simp only [SlH.val] at hcg
            have HTP := Aside0.mk (HTW.out.put hX0 HR0.out 0 (tb T 0 0 + 1))
            rw [putTB_set HR0.out] at HTP
            have HZP := Aside0.mk (Below.setCell HZ.out (p := ⟨bw, 0, none⟩) (HTW.out.base hX0 HR0.out) (.int .i64 (tb T 0 0 + 1)))
            have HXZ := Aside0.mk (HX_19.out.below HZP.out)
            obtain ⟨y0, y1, y2⟩ := HXZ.out
            have hwt : IntKind.i64.wrap (tb T 0 0 + 1) = tb T 0 0 + 1 := wrap_sum ht0.1 (by omega) (by omega) (by omega)
            have z1 : (0 : Int) < (T.length : Int) := by omega
            have z2 : (0 : Int) < (r0.length : Int) := by omega
            have z3 : 0 < T.length := by omega
            have z4 : 0 < r0.length := by omega
            have hns : ¬ ((s : Int) < (T.length : Int)) := by omega
            clear hk hX0 hg9 hlt
            go_wp2_with fail
            clear hcg hcr hfr
            generalize World.setCell wr _ _ = wA at HTP HZP HXZ y0 y1 y2 ⊢
            have HK1' := Aside0.mk (HCT.out (some ⟨gw, 0, none⟩) dw (putTB T (tb T 0 0 + 1)) (putTB_ok64 HT64.out (by omega) (by omega)) wA (Kd.C_below HC_19.out HZP.out) (Kd.C_below HL_19.out HZP.out) HTP.out.reads.2.2)
            have hct2 : ctV k L (putTB T (tb T 0 0 + 1)) = false := by rw [ct_prf HE0.out]; exact HMORE.out
            rw [hct2, HE0.out, putTB_len] at HK1'
            clear hct2
            refine HK1'.out.mono ?_; rintro _ wB ⟨rfl, hb⟩
            have HZB := Aside0.mk (bstep HZP.out hb)
            have HTB := Aside0.mk (HTP.out.below hb)
            clear hb y0 y1 y2
            obtain ⟨y0, y1, y2⟩ := HX_19.out.below HZB.out
            go_wp2_with fail
            have HK2' := Aside0.mk (HPC.out (some ⟨gw, 0, none⟩) dw (putTB T (tb T 0 0 + 1)) (putTB_ok64 HT64.out (by omega) (by omega)) wB (Kd.C_below HC_19.out HZB.out) (Kd.C_below HL_19.out HZB.out) HTB.out.reads.2.2)
            have hpn := pc_no HE0.out HMORE.out
            rw [hpn.1, hpn.2, putTB_len] at HK2'
            clear hpn
            refine HK2'.out.mono ?_; rintro _ wC ⟨rfl, hb⟩
            have HZC := Aside0.mk (bstep HZB.out hb)
            have HTC := Aside0.mk (HTB.out.below hb)
            clear hb y0 y1 y2
            by_cases ht : tb T 0 0 = 0
            · have hb9 : (tb T 0 0 == 0) = true := by simp [ht]
              clear ht
              go_wp2_with fail
              go_ret
              exact ⟨rfl, HB_19.out.trans (HZC.out.mono HB_19.out.size)⟩
            · have hb9 : (tb T 0 0 == 0) = false := by simpa using ht
              obtain ⟨hle1, hle2⟩ := HLESS.out ht
              have HLP := Aside0.mk (prf_yes hle1)
              clear ht hle1
              have hcg := (HTC.out.cellg HXW.out).1
              have hr0y : (r0.set 0 (tb T 0 0 + 1))[0]? = some (tb T 0 0 + 1) := List.getElem?_set_self (by omega)
              obtain ⟨hcr, hfr⟩ := HTC.out.cellr HXW.out (putTB_row HR0.out) hr0y
              simp only [SlH.val] at hcg
              have HTQ := Aside0.mk (HTC.out.put HXW.out (putTB_row HR0.out) 0 (tb T 0 0 + 1 - 2))
              rw [putTB_two HR0.out, show tb T 0 0 + 1 - 2 = tb T 0 0 - 1 by omega] at HTQ
              have HZQ := Aside0.mk (Below.setCell HZC.out (p := ⟨bw, 0, none⟩) (HTC.out.base HXW.out (putTB_row HR0.out)) (.int .i64 (tb T 0 0 - 1)))
              obtain ⟨y0, y1, y2⟩ := HX_19.out.below HZQ.out
              have hwm2 : IntKind.i64.wrap (tb T 0 0 + 1 - 2) = tb T 0 0 - 1 := by rw [IntKind.wrap_i64]; omega
              have hwm1 : IntKind.i64.wrap (tb T 0 0 - 1) = tb T 0 0 - 1 := by rw [IntKind.wrap_i64]; omega
              clear hr0y
              go_wp2_with fail
              clear hcg hcr hfr
              generalize World.setCell wC _ _ = wD at HTQ HZQ y0 y1 y2 ⊢
              have HK3' := Aside0.mk (HPC.out (some ⟨gw, 0, none⟩) dw (putTB T (tb T 0 0 - 1)) (putTB_ok64 HT64.out (by omega) (by omega)) wD (Kd.C_below HC_19.out HZQ.out) (Kd.C_below HL_19.out HZQ.out) HTQ.out.reads.2.2)
              have htbq : tb (putTB T (tb T 0 0 - 1)) 0 0 = tb T 0 0 - 1 := by rw [putTB_tb (by omega) (by rw [List.getD_eq_getElem?_getD, HR0.out]; show 0 < r0.length; omega), if_pos ⟨rfl, rfl⟩]
              have hpo := pc_ok HE0.out HLP.out (by rw [htbq]; omega)
              rw [hpo.1, hpo.2, htbq, putTB_len] at HK3'
              clear hpo htbq
              refine HK3'.out.mono ?_; rintro _ wE ⟨rfl, hb⟩
              have HZE := Aside0.mk (bstep HZQ.out hb)
              clear hb y0 y1 y2
              go_wp2_with fail
              go_ret
              exact ⟨by simp, HB_19.out.trans (HZE.out.mono HB_19.out.size)⟩
      · skip
        go_wp2_with fail
        have HY3 := Aside0.mk hL3
        have hz3 := layC_of hL3
        clear hL3
        have HM3 := Aside0.mk (show n1 ≤ coV k L E3 true by rw [co_us HY3.out]; exact HLO1.out _ HY3.out)
        have HM4 := Aside0.mk (show tb T 0 0 ≤ coV k L E3 false by rw [co_sq HY3.out]; exact HLO2.out _ HY3.out)
        obtain ⟨m3, hm3⟩ : ∃ b, coV k L E3 true = b := ⟨_, rfl⟩
        rw [hm3] at HM3
        have HU3' := Aside0.mk (HUS.out Afi dfi E3 _ HC_19.out HL_19.out Hfi_19.out)
        rw [hm3, hz3] at HU3'
        clear hm3
        refine (HU3'.out).mono ?_; rintro _ w20 ⟨rfl, hb⟩
        have HX_20 := Aside0.mk ((CsAt.below HX_19.out hb))
        have HC_20 := Aside0.mk ((Kd.C_below HC_19.out hb))
        have HL_20 := Aside0.mk ((Kd.C_below HL_19.out hb))
        have HB_20 := Aside0.mk (bstep HB_19.out hb)
        have Hfw_20 := Aside0.mk ((Kd.C_below Hfw_19.out hb))
        have Hdu_20 := Aside0.mk ((Kd.C_below Hdu_19.out hb))
        have Hbe_20 := Aside0.mk ((Kd.C_below Hbe_19.out hb))
        have Hmo_20 := Aside0.mk ((Kd.C_below Hmo_19.out hb))
        have Hta_20 := Aside0.mk ((OwnT.below Hta_19.out hb))
        have Hpr_20 := Aside0.mk ((OwnT.below Hpr_19.out hb))
        have Hfi_20 := Aside0.mk ((Kd.C_below Hfi_19.out hb))
        clear hb
        clear y0 y1 y2
        obtain ⟨y0, y1, y2⟩ := HX_20.out
        go_wp2_with fail
        obtain ⟨m4, hm4⟩ : ∃ b, coV k L E3 false = b := ⟨_, rfl⟩
        rw [hm4] at HM4
        have HX3' := Aside0.mk (HCO.out Afi dfi E3 _ HC_20.out HL_20.out Hfi_20.out)
        rw [hm4, hz3] at HX3'
        clear hm4
        refine (HX3'.out).mono ?_; rintro _ w21 ⟨rfl, hb⟩
        have HX_21 := Aside0.mk ((CsAt.below HX_20.out hb))
        have HC_21 := Aside0.mk ((Kd.C_below HC_20.out hb))
        have HL_21 := Aside0.mk ((Kd.C_below HL_20.out hb))
        have HB_21 := Aside0.mk (bstep HB_20.out hb)
        have Hfw_21 := Aside0.mk ((Kd.C_below Hfw_20.out hb))
        have Hdu_21 := Aside0.mk ((Kd.C_below Hdu_20.out hb))
        have Hbe_21 := Aside0.mk ((Kd.C_below Hbe_20.out hb))
        have Hmo_21 := Aside0.mk ((Kd.C_below Hmo_20.out hb))
        have Hta_21 := Aside0.mk ((OwnT.below Hta_20.out hb))
        have Hpr_21 := Aside0.mk ((OwnT.below Hpr_20.out hb))
        have Hfi_21 := Aside0.mk ((Kd.C_below Hfi_20.out hb))
        clear hb
        clear y0 y1 y2
        obtain ⟨y0, y1, y2⟩ := HX_21.out
        have q3 : decide (m3 < n1) = false := decide_eq_false (by have := HM3.out; omega)
        have q3' : ¬ (m3 < n1) := by have := HM3.out; omega
        have q4 : decide (m4 < tb T 0 0) = false := decide_eq_false (by have := HM4.out; omega)
        have q4' : ¬ (m4 < tb T 0 0) := by have := HM4.out; omega
        go_wp2_with fail
        clear y0 y1 y2
        have htl : 1 ≤ T.length ∧ T.length ≤ 13 := by have := HTLN.out; omega
        have hr0l : 1 ≤ r0.length ∧ r0.length ≤ 61 := by have := HR0L.out; omega
        go_loopg [41, 42] T.length (fun gk v41 v42 wr => ∃ s : Nat, ∃ X : List SlH, s + gk = T.length ∧ v42 = .int .i64 s ∧ Aside0 (OwnT w21 wr v41 X (T.take s)) ∧ Aside0 (Below w21.heap.size w21 wr))
        case atStart => exact ⟨0, [], by omega, rfl, ⟨OwnT.zero (Nat.le_refl _)⟩, ⟨balloc (Below.refl _ _) _⟩⟩
        case round =>
          obtain ⟨s, X, hk, rfl, HT, HZ⟩ := hrel
          have HK := Aside0.mk hk
          by_cases hlt : s < T.length
          · obtain ⟨r, hr, hrl, _⟩ := HTAF.out.row s (by have := HTLN.out; omega)
            have HPR := Aside0.mk (Hpr_21.out.below HZ.out)
            obtain ⟨bs, cs, hXs⟩ := HPR.out.blk hr (by omega)
            have hcs := (HPR.out.cellg hXs).1
            have HCR := Aside0.mk (show (Kd.int .i64).C wr (some ⟨bs, 0, none⟩) r.length r from (HPR.out.row s _ r hXs hr).reads)
            have HTS1 := Aside0.mk (show T.take (s + 1) = T.take s ++ [r] from take_snoc hr)
            have HRL := Aside0.mk hrl
            have hxl := HT.out.len
            have HXL := Aside0.mk (show X.length ≤ 1000 by rw [hxl, List.length_take]; omega)
            have i0 : (0 : Int) ≤ (s : Int) := by omega
            have i1 : (s : Int) < (T.length : Int) := by omega
            have hr61 : r.length ≤ 2097152 := by omega
            have hcs2 := ((HPR.out.below (balloc (Below.refl _ _) (.cells #[] 2))).cellg hXs).1
            simp only [SlH.val] at hcs hcs2
            clear hk hXs hr hrl hxl
            go_wp2_with (first | (at_builtin; refine i64_append_all (w := wr) rfl (.tmp 314) (.tmp 318) rfl (some ⟨bs, 0, none⟩) r.length cs r rfl rfl HCR.out (Below.refl _ _) hr61 ?_; intro va wa hRa hBa; obtain ⟨ba, ca, ea, hga, _⟩ := Kd.R_form hRa (by have := HRL.out; omega); subst ea; have HRA := Aside0.mk hRa; have HBA := Aside0.mk hBa; clear hRa hBa hga) | (at_builtin; refine sh_app (W := wa) w21.heap.size (Nat.le_trans HZ.out.size HBA.out.size) rfl (.tmp 313) (.tmp 320) rfl _ X ⟨some ⟨ba, 0, none⟩, r.length, ca⟩ rfl rfl (Kd.R_mono (HT.out.out.below HBA.out) (fun _ _ => trivial)) HXL.out ?_; intro vb wb hRb hGb; have HRB := Aside0.mk hRb; have HGB := Aside0.mk hGb; clear hRb hGb))
            have HTA := Aside0.mk (HT.out.below HBA.out)
            have HAP := Aside0.mk (show ∀ (q : Nat) (y : SlH), X[q]? = some y → Apart y.val (SlH.val ⟨some ⟨ba, 0, none⟩, r.length, ca⟩) from fun q y hy => by
              obtain ⟨rq, hrq⟩ : ∃ rq, (T.take s)[q]? = some rq := ⟨_, List.getElem?_eq_getElem (by rw [← HT.out.len]; exact (List.getElem?_eq_some_iff.1 hy).1)⟩
              exact Apart.new (HT.out.row q y rq hy hrq) HRA.out)
            have HTB := Aside0.mk (show OwnT w21 wb vb _ (T.take (s + 1)) by rw [HTS1.out]; exact OwnT.snoc (x := ⟨some ⟨ba, 0, none⟩, r.length, ca⟩) HTA.out (Kd.R_tight (kInt_E _) (Kd.R_lower HRA.out HZ.out.size)) HAP.out HGB.out HRB.out)
            have HZB := Aside0.mk (pw_below_grown (HZ.out.trans (HBA.out.mono HZ.out.size)) _ (Nat.le_trans HZ.out.size HBA.out.size) HGB.out (fun q hq => Kd.R_base HTA.out.out q hq))
            go_roundg (gk - 1)
            case measure => have := HK.out; omega
            case rel => exact ⟨s + 1, _, by have := HK.out; omega, by go_num, HTB, HZB⟩
          · have HTW := Aside0.mk (show OwnT w21 wr _ X T by have := HT.out; rw [List.take_of_length_le (by omega)] at this; exact this)
            clear HT
            obtain ⟨gw, dw, e9, hg9, _⟩ := Kd.R_form HTW.out.out (by have := HTW.out.len; omega)
            rw [HTW.out.len] at e9
            subst e9
            obtain ⟨bw, cw, hX0⟩ := HTW.out.blk (i := 0) HR0.out (by omega)
            have HXW := Aside0.mk hX0
            have hcg := (HTW.out.cellg hX0).1
            obtain ⟨hcr, hfr⟩ := HTW.out.cellr hX0 HR0.out HR0A.out
            simp only [SlH.val] at hcg
            have HTP := Aside0.mk (HTW.out.put hX0 HR0.out 0 (tb T 0 0 + 1))
            rw [putTB_set HR0.out] at HTP
            have HZP := Aside0.mk (Below.setCell HZ.out (p := ⟨bw, 0, none⟩) (HTW.out.base hX0 HR0.out) (.int .i64 (tb T 0 0 + 1)))
            have HXZ := Aside0.mk (HX_21.out.below HZP.out)
            obtain ⟨y0, y1, y2⟩ := HXZ.out
            have hwt : IntKind.i64.wrap (tb T 0 0 + 1) = tb T 0 0 + 1 := wrap_sum ht0.1 (by omega) (by omega) (by omega)
            have z1 : (0 : Int) < (T.length : Int) := by omega
            have z2 : (0 : Int) < (r0.length : Int) := by omega
            have z3 : 0 < T.length := by omega
            have z4 : 0 < r0.length := by omega
            have hns : ¬ ((s : Int) < (T.length : Int)) := by omega
            clear hk hX0 hg9 hlt
            go_wp2_with fail
            clear hcg hcr hfr
            generalize World.setCell wr _ _ = wA at HTP HZP HXZ y0 y1 y2 ⊢
            have HK1' := Aside0.mk (HCT.out (some ⟨gw, 0, none⟩) dw (putTB T (tb T 0 0 + 1)) (putTB_ok64 HT64.out (by omega) (by omega)) wA (Kd.C_below HC_21.out HZP.out) (Kd.C_below HL_21.out HZP.out) HTP.out.reads.2.2)
            have hct2 : ctV k L (putTB T (tb T 0 0 + 1)) = false := by rw [ct_prf HE0.out]; exact HMORE.out
            rw [hct2, HE0.out, putTB_len] at HK1'
            clear hct2
            refine HK1'.out.mono ?_; rintro _ wB ⟨rfl, hb⟩
            have HZB := Aside0.mk (bstep HZP.out hb)
            have HTB := Aside0.mk (HTP.out.below hb)
            clear hb y0 y1 y2
            obtain ⟨y0, y1, y2⟩ := HX_21.out.below HZB.out
            go_wp2_with fail
            have HK2' := Aside0.mk (HPC.out (some ⟨gw, 0, none⟩) dw (putTB T (tb T 0 0 + 1)) (putTB_ok64 HT64.out (by omega) (by omega)) wB (Kd.C_below HC_21.out HZB.out) (Kd.C_below HL_21.out HZB.out) HTB.out.reads.2.2)
            have hpn := pc_no HE0.out HMORE.out
            rw [hpn.1, hpn.2, putTB_len] at HK2'
            clear hpn
            refine HK2'.out.mono ?_; rintro _ wC ⟨rfl, hb⟩
            have HZC := Aside0.mk (bstep HZB.out hb)
            have HTC := Aside0.mk (HTB.out.below hb)
            clear hb y0 y1 y2
            by_cases ht : tb T 0 0 = 0
            · have hb9 : (tb T 0 0 == 0) = true := by simp [ht]
              clear ht
              go_wp2_with fail
              go_ret
              exact ⟨rfl, HB_21.out.trans (HZC.out.mono HB_21.out.size)⟩
            · have hb9 : (tb T 0 0 == 0) = false := by simpa using ht
              obtain ⟨hle1, hle2⟩ := HLESS.out ht
              have HLP := Aside0.mk (prf_yes hle1)
              clear ht hle1
              have hcg := (HTC.out.cellg HXW.out).1
              have hr0y : (r0.set 0 (tb T 0 0 + 1))[0]? = some (tb T 0 0 + 1) := List.getElem?_set_self (by omega)
              obtain ⟨hcr, hfr⟩ := HTC.out.cellr HXW.out (putTB_row HR0.out) hr0y
              simp only [SlH.val] at hcg
              have HTQ := Aside0.mk (HTC.out.put HXW.out (putTB_row HR0.out) 0 (tb T 0 0 + 1 - 2))
              rw [putTB_two HR0.out, show tb T 0 0 + 1 - 2 = tb T 0 0 - 1 by omega] at HTQ
              have HZQ := Aside0.mk (Below.setCell HZC.out (p := ⟨bw, 0, none⟩) (HTC.out.base HXW.out (putTB_row HR0.out)) (.int .i64 (tb T 0 0 - 1)))
              obtain ⟨y0, y1, y2⟩ := HX_21.out.below HZQ.out
              have hwm2 : IntKind.i64.wrap (tb T 0 0 + 1 - 2) = tb T 0 0 - 1 := by rw [IntKind.wrap_i64]; omega
              have hwm1 : IntKind.i64.wrap (tb T 0 0 - 1) = tb T 0 0 - 1 := by rw [IntKind.wrap_i64]; omega
              clear hr0y
              go_wp2_with fail
              clear hcg hcr hfr
              generalize World.setCell wC _ _ = wD at HTQ HZQ y0 y1 y2 ⊢
              have HK3' := Aside0.mk (HPC.out (some ⟨gw, 0, none⟩) dw (putTB T (tb T 0 0 - 1)) (putTB_ok64 HT64.out (by omega) (by omega)) wD (Kd.C_below HC_21.out HZQ.out) (Kd.C_below HL_21.out HZQ.out) HTQ.out.reads.2.2)
              have htbq : tb (putTB T (tb T 0 0 - 1)) 0 0 = tb T 0 0 - 1 := by rw [putTB_tb (by omega) (by rw [List.getD_eq_getElem?_getD, HR0.out]; show 0 < r0.length; omega), if_pos ⟨rfl, rfl⟩]
              have hpo := pc_ok HE0.out HLP.out (by rw [htbq]; omega)
              rw [hpo.1, hpo.2, htbq, putTB_len] at HK3'
              clear hpo htbq
              refine HK3'.out.mono ?_; rintro _ wE ⟨rfl, hb⟩
              have HZE := Aside0.mk (bstep HZQ.out hb)
              clear hb y0 y1 y2
              go_wp2_with fail
              go_ret
              exact ⟨by simp, HB_21.out.trans (HZE.out.mono HB_21.out.size)⟩
end Go.Proofs.Ytdippdkneeocfaa
