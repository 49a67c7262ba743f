/- Texts of this proof that belong together: WkFnBooks. No condition. -/
import Derived.Test.YtkoaangakmpggaaGreatDoorB5
import Derived.StillTailTactics
import Derived.Still
import Derived.Deep.QuietTactic
import Derived.BigQuiet
import Derived.Deep.RegionHeld3
section
/- The law FnBooks returns true of every input. -/
namespace Go.Proofs.YtkoaangakmpggaaGreatDoor
open Go.RowKit Go.Proofs.YtkoaangakmpggaaGreatDoorW.PrintWords Go.Proofs.YtkoaangakmpggaaGreatDoorW.PrintMore
set_option linter.unusedVariables false
set_option linter.unusedSimpArgs false
set_option maxRecDepth 100000

set_option maxHeartbeats 16000000 in
theorem FnBooks_c {w : World} (A0 : Option Addr) (c0 : Nat) (L0 : List Int) (hlc0 : L0.length ≤ c0) (hL0 : (Kd.int .u8).C w A0 L0.length L0) (hok0 : ∀ x, x ∈ L0 → 0 ≤ x ∧ x ≤ 255) (A1 : Option Addr) (c1 : Nat) (L1 : List Int) (hlc1 : L1.length ≤ c1) (hL1 : (Kd.int .u8).C w A1 L1.length L1) (hok1 : ∀ x, x ∈ L1 → 0 ≤ x ∧ x ≤ 255) (ht : Txt w) :
    Calls Tryz.prog 3 #[.slice A0 L0.length c0, .slice A1 L1.length c1] w (Ret w (.bool true)) := by
  have hr0 := Kd.C_max hL0
  have hr1 := Kd.C_max hL1
  have HA0 := Aside0.mk (f6big_c A0 L0.length c0 hr0 w)
  have HA1 := Aside0.mk (f6big_c A1 L1.length c1 hr1 w)
  have HL0 := Aside0.mk hL0
  have HL1 := Aside0.mk hL1
  have HO0 := Aside0.mk hok0
  have HO1 := Aside0.mk hok1
  have HT := Aside0.mk ht
  clear hL0 hL1 hok0 hok1 ht
  by_cases hb0 : 4096 < L0.length
  · rw [decide_eq_true hb0] at HA0
    clear hb0
    go_enter Tryz.func3, Tryz.ntmps3
    go_wp2_with fail
    refine HA0.out.mono ?_; rintro _ w0 ⟨rfl, rfl⟩
    go_wp2
    go_ret
    exact ⟨rfl, Below.refl _ _⟩
  · rw [decide_eq_false hb0] at HA0
    clear hb0
    by_cases hb1 : 4096 < L1.length
    · rw [decide_eq_true hb1] at HA1
      clear hb1
      go_enter Tryz.func3, Tryz.ntmps3
      go_wp2_with fail
      refine HA0.out.mono ?_; rintro _ w0 ⟨rfl, rfl⟩
      go_wp2_with fail
      refine HA1.out.mono ?_; rintro _ w0 ⟨rfl, rfl⟩
      go_wp2
      go_ret
      exact ⟨rfl, Below.refl _ _⟩
    · rw [decide_eq_false hb1] at HA1
      have HLB1 := Aside0.mk hb1
      clear hb1
      go_enter Tryz.func3, Tryz.ntmps3
      go_wp2_with fail
      refine HA0.out.mono ?_; rintro _ w0 ⟨rfl, rfl⟩
      go_wp2_with fail
      refine HA1.out.mono ?_; rintro _ w0 ⟨rfl, rfl⟩
      clear HA0 HA1
      go_wp2_with fail
      refine (P6List_c A0 c0 L0 w HL0.out HO0.out).mono ?_; rintro _ w1 ⟨vl, rfl, hb, L, hRL, hVB, hl11⟩
      obtain ⟨Al, cl, rfl⟩ := Kd.R_slice hRL
      have HV := Aside0.mk (show ∀ b, b ∈ L → vBook b = true from fun b hb => (hVB b hb).1)
      have HOL := Aside0.mk (show OkL L from fun b hb => (hVB b hb).2)
      have HVS := Aside0.mk (vBooks_of HV.out (by omega))
      have hll := (Kd.R_reads' hRL).2.1
      have HL_1 := Aside0.mk ((Kd.R_reads' hRL).2.2)
      have HT_1 := Aside0.mk (HT.out.below hb)
      have HB_1 := Aside0.mk (hb)
      have hml := Kd.C_max HL_1.out
      clear hRL hVB hb HT
      go_wp2_with fail
      refine (P6Order_c A1 c1 L1 w1 (Kd.C_below HL1.out HB_1.out) HO1.out).mono ?_; rintro _ w2 ⟨vo, rfl, hb, O, hRO, hOU, hO0⟩
      have HL_2 := Aside0.mk (Kd.C_below HL_1.out hb)
      have HT_2 := Aside0.mk (HT_1.out.below hb)
      have HB_2 := Aside0.mk (bstep HB_1.out hb)
      clear hb
      obtain ⟨Ao, co, rfl⟩ := Kd.R_slice hRO
      have HK8 := Aside0.mk hOU.i8
      have HVO := Aside0.mk (hOU.ord hO0)
      have HO_2 := Aside0.mk (show (Kd.int .i8).C w2 Ao O.length O from (Kd.R_reads' hRO).2.2)
      clear hRO hOU
      have HF := Aside0.mk (BkF.of O HV.out HOL.out hl11 HVO.out)
      have HFU := Aside0.mk (BkF.of usualL HV.out HOL.out hl11 usual_vOrd)
      have HIS := Aside0.mk (sort_isS L)
      obtain ⟨S, hS⟩ : ∃ S, Srt.sortL (ltBy O) L = S := ⟨_, rfl⟩
      obtain ⟨U, hU⟩ : ∃ U, Srt.sortL (ltBy usualL) L = U := ⟨_, rfl⟩
      rw [hS] at HF
      rw [hU] at HFU HIS
      clear hS hU
      have HSI := Aside0.mk (fun W h1 h2 => SortBooks_c Ao Al co cl O L W h1 HK8.out h2)
      have HSS := Aside0.mk (fun W h1 h2 => specSortBooks_c Ao Al co cl O L HOL.out W h1 HK8.out h2)
      have HS2 := Aside0.mk (fun As cs W h1 h2 => SortBooks_c Ao As co cs O S W h1 HK8.out h2)
      have HSU := Aside0.mk (fun g W h1 h2 => SortBooks_c (some ⟨g, 0, none⟩) Al 3 cl usualL L W h1 usualL_ok h2)
      simp only [HF.out.v, HF.out.e] at HSI HSS
      simp only [HF.out.v2, HF.out.e2] at HS2
      simp only [HFU.out.v, HFU.out.e] at HSU
      have HBT := Aside0.mk (fun W h1 h2 => BooksText_c Al cl L W h1 h2)
      have HRT := Aside0.mk (fun W h => ReadBooks_c (lsT L) (Nat.le_trans (lsT_len (by omega) HV.out) (by omega)) W h)
      simp only [tBs_ok HVS.out] at HBT
      simp only [(lsT_back (by omega) HV.out).1, (lsT_back (by omega) HV.out).2] at HRT
      have HPI := Aside0.mk (fun W h => PairsOut_c Al cl L hll W h)
      have HPS := Aside0.mk (fun W h => specPairsOut_c Al cl L HOL.out W h)
      have HPU := Aside0.mk (fun A c hlc W h => PairsOut_c A c U hlc W h)
      have HIU := Aside0.mk (fun A c W h => IsSorted_c A c U W h)
      simp only [(pv_ok HVS.out).1, (pv_ok HVS.out).2] at HPI HPS
      simp only [(pv_ok HFU.out.val).1, (pv_ok HFU.out.val).2, pairs_zero HIS.out] at HPU
      simp only [HFU.out.val, HIS.out, (pv_ok HFU.out.val).2, Bool.and_self] at HIU
      have HCS := Aside0.mk (isS_cases HVS.out)
      obtain ⟨p, hp⟩ : ∃ p, pairsL L = p := ⟨_, rfl⟩
      rw [hp] at HPI HPS HCS
      clear hp
      go_wp2_with fail
      refine (HSI.out _ HO_2.out HL_2.out).mono ?_; rintro _ w3 ⟨_, rfl, hb, vso, rfl, hv⟩
      have HL_3 := Aside0.mk (Kd.C_below HL_2.out hb)
      have HT_3 := Aside0.mk (HT_2.out.below hb)
      have HB_3 := Aside0.mk (bstep HB_2.out hb)
      have HO_3 := Aside0.mk (Kd.C_below HO_2.out hb)
      clear hb
      obtain ⟨Aso, dso, rfl, lso⟩ : ∃ A d, vso = .slice A S.length d ∧ S.length ≤ d := by obtain ⟨A, d, e1, e2, _⟩ := Kd.R_reads hv; exact ⟨A, d, e1, e2⟩
      have Hso_3 := Aside0.mk (show kBk.C w3 Aso S.length S from (Kd.R_reads' hv).2.2)
      clear hv
      go_wp2_with fail
      refine (HSS.out _ HO_3.out HL_3.out).mono ?_; rintro _ w4 ⟨_, rfl, hb, vdu, rfl, hv⟩
      have HL_4 := Aside0.mk (Kd.C_below HL_3.out hb)
      have HT_4 := Aside0.mk (HT_3.out.below hb)
      have HB_4 := Aside0.mk (bstep HB_3.out hb)
      have HO_4 := Aside0.mk (Kd.C_below HO_3.out hb)
      have Hso_4 := Aside0.mk (Kd.C_below Hso_3.out hb)
      clear hb
      obtain ⟨Adu, ddu, rfl, ldu⟩ : ∃ A d, vdu = .slice A S.length d ∧ S.length ≤ d := by obtain ⟨A, d, e1, e2, _⟩ := Kd.R_reads hv; exact ⟨A, d, e1, e2⟩
      have Hdu_4 := Aside0.mk (show kBk.C w4 Adu S.length S from (Kd.R_reads' hv).2.2)
      clear hv
      go_wp2_with fail
      refine (HS2.out _ _ _ HO_4.out Hdu_4.out).mono ?_; rintro _ w5 ⟨_, rfl, hb, vag, rfl, hv⟩
      have HL_5 := Aside0.mk (Kd.C_below HL_4.out hb)
      have HT_5 := Aside0.mk (HT_4.out.below hb)
      have HB_5 := Aside0.mk (bstep HB_4.out hb)
      have HO_5 := Aside0.mk (Kd.C_below HO_4.out hb)
      have Hso_5 := Aside0.mk (Kd.C_below Hso_4.out hb)
      have Hdu_5 := Aside0.mk (Kd.C_below Hdu_4.out hb)
      clear hb
      obtain ⟨Aag, dag, rfl, lag⟩ : ∃ A d, vag = .slice A S.length d ∧ S.length ≤ d := by obtain ⟨A, d, e1, e2, _⟩ := Kd.R_reads hv; exact ⟨A, d, e1, e2⟩
      have Hag_5 := Aside0.mk (show kBk.C w5 Aag S.length S from (Kd.R_reads' hv).2.2)
      clear hv
      go_wp2_with fail
      refine (HBT.out _ HL_5.out HT_5.out.tab).mono ?_; rintro _ w6 ⟨rfl, hb⟩
      have HL_6 := Aside0.mk (Kd.C_below HL_5.out hb)
      have HT_6 := Aside0.mk (HT_5.out.below hb)
      have HB_6 := Aside0.mk (bstep HB_5.out hb)
      have HO_6 := Aside0.mk (Kd.C_below HO_5.out hb)
      have Hso_6 := Aside0.mk (Kd.C_below Hso_5.out hb)
      have Hdu_6 := Aside0.mk (Kd.C_below Hdu_5.out hb)
      have Hag_6 := Aside0.mk (Kd.C_below Hag_5.out hb)
      clear hb
      go_wp2_with fail
      refine (HRT.out _ HT_6.out).mono ?_; rintro _ w7 ⟨_, rfl, hb, vba, rfl, hv⟩
      have HL_7 := Aside0.mk (Kd.C_below HL_6.out hb)
      have HT_7 := Aside0.mk (HT_6.out.below hb)
      have HB_7 := Aside0.mk (bstep HB_6.out hb)
      have HO_7 := Aside0.mk (Kd.C_below HO_6.out hb)
      have Hso_7 := Aside0.mk (Kd.C_below Hso_6.out hb)
      have Hdu_7 := Aside0.mk (Kd.C_below Hdu_6.out hb)
      have Hag_7 := Aside0.mk (Kd.C_below Hag_6.out hb)
      clear hb
      obtain ⟨Aba, dba, rfl, lba⟩ : ∃ A d, vba = .slice A L.length d ∧ L.length ≤ d := by obtain ⟨A, d, e1, e2, _⟩ := Kd.R_reads hv; exact ⟨A, d, e1, e2⟩
      have Hba_7 := Aside0.mk (show kBk.C w7 Aba L.length L from (Kd.R_reads' hv).2.2)
      clear hv
      go_wp2_with fail
      refine (HPI.out _ HL_7.out).mono ?_; rintro _ w8 ⟨rfl, hb⟩
      have HL_8 := Aside0.mk (Kd.C_below HL_7.out hb)
      have HT_8 := Aside0.mk (HT_7.out.below hb)
      have HB_8 := Aside0.mk (bstep HB_7.out hb)
      have HO_8 := Aside0.mk (Kd.C_below HO_7.out hb)
      have Hso_8 := Aside0.mk (Kd.C_below Hso_7.out hb)
      have Hdu_8 := Aside0.mk (Kd.C_below Hdu_7.out hb)
      have Hag_8 := Aside0.mk (Kd.C_below Hag_7.out hb)
      have Hba_8 := Aside0.mk (Kd.C_below Hba_7.out hb)
      clear hb
      go_wp2_with fail
      refine (HPS.out _ HL_8.out).mono ?_; rintro _ w9 ⟨rfl, hb⟩
      have HL_9 := Aside0.mk (Kd.C_below HL_8.out hb)
      have HT_9 := Aside0.mk (HT_8.out.below hb)
      have HB_9 := Aside0.mk (bstep HB_8.out hb)
      have HO_9 := Aside0.mk (Kd.C_below HO_8.out hb)
      have Hso_9 := Aside0.mk (Kd.C_below Hso_8.out hb)
      have Hdu_9 := Aside0.mk (Kd.C_below Hdu_8.out hb)
      have Hag_9 := Aside0.mk (Kd.C_below Hag_8.out hb)
      have Hba_9 := Aside0.mk (Kd.C_below Hba_8.out hb)
      clear hb
      go_wp2_with fail
      have hx3 := blk_new w9 (.cells #[.int .i8 1, .int .i8 2, .int .i8 3] 34)
      have hb : Below w9.heap.size w9 (w9.alloc (.cells #[.int .i8 1, .int .i8 2, .int .i8 3] 34)) := balloc (Below.refl _ _) _
      have hu3 := usual_C w9
      generalize World.alloc w9 _ = w10 at hx3 hb hu3 ⊢
      have HL_10 := Aside0.mk (Kd.C_below HL_9.out hb)
      have HT_10 := Aside0.mk (HT_9.out.below hb)
      have HB_10 := Aside0.mk (bstep HB_9.out hb)
      have HO_10 := Aside0.mk (Kd.C_below HO_9.out hb)
      have Hso_10 := Aside0.mk (Kd.C_below Hso_9.out hb)
      have Hdu_10 := Aside0.mk (Kd.C_below Hdu_9.out hb)
      have Hag_10 := Aside0.mk (Kd.C_below Hag_9.out hb)
      have Hba_10 := Aside0.mk (Kd.C_below Hba_9.out hb)
      clear hb
      clear hx3
      have Hus_10 := Aside0.mk (hu3)
      clear hu3
      refine (HSU.out _ _ Hus_10.out HL_10.out).mono ?_; rintro _ w11 ⟨_, rfl, hb, vun, rfl, hv⟩
      have HL_11 := Aside0.mk (Kd.C_below HL_10.out hb)
      have HT_11 := Aside0.mk (HT_10.out.below hb)
      have HB_11 := Aside0.mk (bstep HB_10.out hb)
      have HO_11 := Aside0.mk (Kd.C_below HO_10.out hb)
      have Hso_11 := Aside0.mk (Kd.C_below Hso_10.out hb)
      have Hdu_11 := Aside0.mk (Kd.C_below Hdu_10.out hb)
      have Hag_11 := Aside0.mk (Kd.C_below Hag_10.out hb)
      have Hba_11 := Aside0.mk (Kd.C_below Hba_10.out hb)
      have Hus_11 := Aside0.mk (Kd.C_below Hus_10.out hb)
      clear hb
      obtain ⟨Aun, dun, rfl, lun⟩ : ∃ A d, vun = .slice A U.length d ∧ U.length ≤ d := by obtain ⟨A, d, e1, e2, _⟩ := Kd.R_reads hv; exact ⟨A, d, e1, e2⟩
      have Hun_11 := Aside0.mk (show kBk.C w11 Aun U.length U from (Kd.R_reads' hv).2.2)
      clear hv
      go_wp2_with fail
      refine (HPU.out Aun dun lun _ Hun_11.out).mono ?_; rintro _ w12 ⟨rfl, hb⟩
      have HL_12 := Aside0.mk (Kd.C_below HL_11.out hb)
      have HT_12 := Aside0.mk (HT_11.out.below hb)
      have HB_12 := Aside0.mk (bstep HB_11.out hb)
      have HO_12 := Aside0.mk (Kd.C_below HO_11.out hb)
      have Hso_12 := Aside0.mk (Kd.C_below Hso_11.out hb)
      have Hdu_12 := Aside0.mk (Kd.C_below Hdu_11.out hb)
      have Hag_12 := Aside0.mk (Kd.C_below Hag_11.out hb)
      have Hba_12 := Aside0.mk (Kd.C_below Hba_11.out hb)
      have Hus_12 := Aside0.mk (Kd.C_below Hus_11.out hb)
      have Hun_12 := Aside0.mk (Kd.C_below Hun_11.out hb)
      clear hb
      go_wp2_with fail
      refine (HIU.out Aun dun _ Hun_12.out).mono ?_; rintro _ w13 ⟨rfl, hb⟩
      have HL_13 := Aside0.mk (Kd.C_below HL_12.out hb)
      have HT_13 := Aside0.mk (HT_12.out.below hb)
      have HB_13 := Aside0.mk (bstep HB_12.out hb)
      have HO_13 := Aside0.mk (Kd.C_below HO_12.out hb)
      have Hso_13 := Aside0.mk (Kd.C_below Hso_12.out hb)
      have Hdu_13 := Aside0.mk (Kd.C_below Hdu_12.out hb)
      have Hag_13 := Aside0.mk (Kd.C_below Hag_12.out hb)
      have Hba_13 := Aside0.mk (Kd.C_below Hba_12.out hb)
      have Hus_13 := Aside0.mk (Kd.C_below Hus_12.out hb)
      have Hun_13 := Aside0.mk (Kd.C_below Hun_12.out hb)
      clear hb
      have hd1 : decide (S = S) = true := decide_eq_true rfl
      have hd2 : decide (L = L) = true := decide_eq_true rfl
      have hn1 : ((U.length : Int) != (L.length : Int)) = false := by rw [HFU.out.len]; simp
      have hn2 : ((S.length : Int) != (L.length : Int)) = false := by rw [HF.out.len]; simp
      have hn1' : (U.length != L.length) = false := by rw [HFU.out.len]; simp
      have hn2' : (S.length != L.length) = false := by rw [HF.out.len]; simp
      have HE1 := Aside0.mk (fun A A' c c' W h1 h2 => specSameBooks_c A A' c c' S S W h1 h2)
      have HE2 := Aside0.mk (fun A A' c c' W h1 h2 => specSameBooks_c A A' c c' L L W h1 h2)
      have HE3 := Aside0.mk (fun A A' c c' W h1 h2 => SameBooks_c A A' c c' L L W h1 h2)
      simp only [hd1] at HE1
      simp only [hd2] at HE2 HE3
      have HVL := Aside0.mk (fun W h => ValidBooks_c Al cl L W h)
      have HVOR := Aside0.mk (fun W h => ValidOrder_c Ao co O W h HK8.out)
      simp only [HVS.out] at HVL
      simp only [HVO.out] at HVOR
      clear hd1 hd2
      go_wp2_with fail
      refine (HE1.out _ _ _ _ _ Hso_13.out Hdu_13.out).mono ?_; rintro _ w14 ⟨rfl, hb⟩
      have HL_14 := Aside0.mk (Kd.C_below HL_13.out hb)
      have HT_14 := Aside0.mk (HT_13.out.below hb)
      have HB_14 := Aside0.mk (bstep HB_13.out hb)
      have HO_14 := Aside0.mk (Kd.C_below HO_13.out hb)
      have Hso_14 := Aside0.mk (Kd.C_below Hso_13.out hb)
      have Hdu_14 := Aside0.mk (Kd.C_below Hdu_13.out hb)
      have Hag_14 := Aside0.mk (Kd.C_below Hag_13.out hb)
      have Hba_14 := Aside0.mk (Kd.C_below Hba_13.out hb)
      have Hus_14 := Aside0.mk (Kd.C_below Hus_13.out hb)
      have Hun_14 := Aside0.mk (Kd.C_below Hun_13.out hb)
      clear hb
      go_wp2_with fail
      refine (HE1.out _ _ _ _ _ Hag_14.out Hdu_14.out).mono ?_; rintro _ w15 ⟨rfl, hb⟩
      have HL_15 := Aside0.mk (Kd.C_below HL_14.out hb)
      have HT_15 := Aside0.mk (HT_14.out.below hb)
      have HB_15 := Aside0.mk (bstep HB_14.out hb)
      have HO_15 := Aside0.mk (Kd.C_below HO_14.out hb)
      have Hso_15 := Aside0.mk (Kd.C_below Hso_14.out hb)
      have Hdu_15 := Aside0.mk (Kd.C_below Hdu_14.out hb)
      have Hag_15 := Aside0.mk (Kd.C_below Hag_14.out hb)
      have Hba_15 := Aside0.mk (Kd.C_below Hba_14.out hb)
      have Hus_15 := Aside0.mk (Kd.C_below Hus_14.out hb)
      have Hun_15 := Aside0.mk (Kd.C_below Hun_14.out hb)
      clear hb
      go_wp2_with fail
      refine (HE2.out _ _ _ _ _ Hba_15.out HL_15.out).mono ?_; rintro _ w16 ⟨rfl, hb⟩
      have HL_16 := Aside0.mk (Kd.C_below HL_15.out hb)
      have HT_16 := Aside0.mk (HT_15.out.below hb)
      have HB_16 := Aside0.mk (bstep HB_15.out hb)
      have HO_16 := Aside0.mk (Kd.C_below HO_15.out hb)
      have Hso_16 := Aside0.mk (Kd.C_below Hso_15.out hb)
      have Hdu_16 := Aside0.mk (Kd.C_below Hdu_15.out hb)
      have Hag_16 := Aside0.mk (Kd.C_below Hag_15.out hb)
      have Hba_16 := Aside0.mk (Kd.C_below Hba_15.out hb)
      have Hus_16 := Aside0.mk (Kd.C_below Hus_15.out hb)
      have Hun_16 := Aside0.mk (Kd.C_below Hun_15.out hb)
      clear hb
      go_wp2_with fail
      refine (HE3.out _ _ _ _ _ Hba_16.out HL_16.out).mono ?_; rintro _ w17 ⟨rfl, hb⟩
      have HL_17 := Aside0.mk (Kd.C_below HL_16.out hb)
      have HT_17 := Aside0.mk (HT_16.out.below hb)
      have HB_17 := Aside0.mk (bstep HB_16.out hb)
      have HO_17 := Aside0.mk (Kd.C_below HO_16.out hb)
      have Hso_17 := Aside0.mk (Kd.C_below Hso_16.out hb)
      have Hdu_17 := Aside0.mk (Kd.C_below Hdu_16.out hb)
      have Hag_17 := Aside0.mk (Kd.C_below Hag_16.out hb)
      have Hba_17 := Aside0.mk (Kd.C_below Hba_16.out hb)
      have Hus_17 := Aside0.mk (Kd.C_below Hus_16.out hb)
      have Hun_17 := Aside0.mk (Kd.C_below Hun_16.out hb)
      clear hb
      go_wp2_with fail
      refine (HVL.out _ HL_17.out).mono ?_; rintro _ w18 ⟨rfl, hb⟩
      have HL_18 := Aside0.mk (Kd.C_below HL_17.out hb)
      have HT_18 := Aside0.mk (HT_17.out.below hb)
      have HB_18 := Aside0.mk (bstep HB_17.out hb)
      have HO_18 := Aside0.mk (Kd.C_below HO_17.out hb)
      have Hso_18 := Aside0.mk (Kd.C_below Hso_17.out hb)
      have Hdu_18 := Aside0.mk (Kd.C_below Hdu_17.out hb)
      have Hag_18 := Aside0.mk (Kd.C_below Hag_17.out hb)
      have Hba_18 := Aside0.mk (Kd.C_below Hba_17.out hb)
      have Hus_18 := Aside0.mk (Kd.C_below Hus_17.out hb)
      have Hun_18 := Aside0.mk (Kd.C_below Hun_17.out hb)
      clear hb
      go_wp2_with fail
      refine (HVOR.out _ HO_18.out).mono ?_; rintro _ w19 ⟨rfl, hb⟩
      have HL_19 := Aside0.mk (Kd.C_below HL_18.out hb)
      have HT_19 := Aside0.mk (HT_18.out.below hb)
      have HB_19 := Aside0.mk (bstep HB_18.out hb)
      have HO_19 := Aside0.mk (Kd.C_below HO_18.out hb)
      have Hso_19 := Aside0.mk (Kd.C_below Hso_18.out hb)
      have Hdu_19 := Aside0.mk (Kd.C_below Hdu_18.out hb)
      have Hag_19 := Aside0.mk (Kd.C_below Hag_18.out hb)
      have Hba_19 := Aside0.mk (Kd.C_below Hba_18.out hb)
      have Hus_19 := Aside0.mk (Kd.C_below Hus_18.out hb)
      have Hun_19 := Aside0.mk (Kd.C_below Hun_18.out hb)
      clear hb
      go_wp2_with fail
      clear hn1 hn1' hn2 hn2' HE1 HE2 HE3 HVL HVOR HSI HSS HS2 HSU HBT HRT HPI HPS HPU HIU
      have HCN := Aside0.mk (fun (b : Bk) W h => CountOf_c Adu ddu S b W h (by have := HF.out.len; omega))
      have HCL := Aside0.mk (fun (b : Bk) W h => CountOf_c Al cl L b W h (by omega))
      have HCB := Aside0.mk (fun (a b : Bk) W h => CompareBy_c Ao co O a b W h HK8.out)
      have HCI := Aside0.mk (fun (a b : Bk) W => CompareBooks_c a b W)
      have HCU := Aside0.mk (fun (a b : Bk) ha hb W => specCompareBooks_c a b ha hb W)
      simp only [Bk.val] at HCN HCL HCB HCI HCU
      go_loopg [25] L.length (fun gk v25 wr => ∃ i : Nat, i + gk = L.length ∧ v25 = .int .i64 i ∧ Aside0 (Below w19.heap.size w19 wr))
      case atStart => exact ⟨0, by omega, rfl, ⟨Below.refl _ _⟩⟩
      case round =>
        obtain ⟨i, hk, rfl, HZ⟩ := hrel
        have HK := Aside0.mk hk
        by_cases hlt : i < L.length
        · obtain ⟨adL, x, rfl, hx, x0, x1, x2, x3, x4, x5, x6, x7⟩ := at_bk (Kd.C_below HL_19.out HZ.out) i hlt
          obtain ⟨adS, y, rfl, hy, y0, y1, y2, y3, y4, y5, y6, y7⟩ := at_bk (Kd.C_below Hdu_19.out HZ.out) i (by have := HF.out.len; omega)
          have HN := Aside0.mk (HF.out.cnt x)
          have hc1 : cntB S x ≤ 1000 := Nat.le_trans (cntB_le _ _) (by have := HF.out.len; omega)
          have HC1 := Aside0.mk (HCN.out x)
          have HC2 := Aside0.mk (HCL.out x)
          simp only [← HN.out] at HC2
          generalize ((cntB S x : Nat) : Int) = n at HC1 HC2
          have xO0 : ∀ p : Over wr, _ := Over.cell x0
          have xO1 : ∀ p : Over wr, _ := Over.cell x1
          have xO2 : ∀ p : Over wr, _ := Over.cell x2
          have xO3 : ∀ p : Over wr, _ := Over.cell x3
          have xO4 : ∀ p : Over wr, _ := Over.cell x4
          have xO5 : ∀ p : Over wr, _ := Over.cell x5
          have xO6 : ∀ p : Over wr, _ := Over.cell x6
          have xO7 : ∀ p : Over wr, _ := Over.cell x7
          have i0 : (0 : Int) ≤ (i : Int) := by omega
          have i1 : (i : Int) < (L.length : Int) := by omega
          have i2 : (i : Int) < (S.length : Int) := by have := HF.out.len; omega
          clear hk hc1 HN
          go_wp2_with fail
          refine region_over (by kernel_rfl) (by kernel_rfl) ?_
          repeat (go_big_quiet_step (first | (go_at_call_of 18 (Value.slice (some adS) S.length ddu); exact Calls.over_of (HC1.out _ (Kd.C_below Hdu_19.out (HZ.out.trans ((Over.h _).mono HZ.out.size))))) | (go_at_call 18; exact Calls.over_of (HC2.out _ (Kd.C_below HL_19.out (HZ.out.trans ((Over.h _).mono HZ.out.size)))))))
          refine wpQuiet_nil ?_
          intro wa hw'
          have hq_wa := over_out hw'
          clear hw'
          have HZa := Aside0.mk (bstep HZ.out hq_wa)
          clear hq_wa xO0 xO1 xO2 xO3 xO4 xO5 xO6 xO7 x0 x1 x2 x3 x4 x5 x6 x7 y0 y1 y2 y3 y4 y5 y6 y7 HC1 HC2
          by_cases hi0 : i = 0
          · have e0 : ((i : Int) == 0) = true := by simp [hi0]
            clear hi0
            go_wp2
            go_roundg (gk - 1)
            case measure => have := HK.out; omega
            case rel => exact ⟨i + 1, by have := HK.out; omega, by go_num, HZa⟩
          · have e0 : ((i : Int) == 0) = false := by simpa using hi0
            have hi1 : i - 1 < L.length := by omega
            obtain ⟨adL2, x', e1, hx', x0, x1, x2, x3, x4, x5, x6, x7⟩ := at_bk (Kd.C_below HL_19.out HZa.out) i hlt
            cases e1
            obtain rfl : x' = x := by have h1 := hx'.out; rw [hx.out] at h1; exact (Option.some.inj h1).symm
            obtain ⟨adS2, y', e1, hy', y0, y1, y2, y3, y4, y5, y6, y7⟩ := at_bk (Kd.C_below Hdu_19.out HZa.out) i (by have := HF.out.len; omega)
            cases e1
            obtain rfl : y' = y := by have h1 := hy'.out; rw [hy.out] at h1; exact (Option.some.inj h1).symm
            obtain ⟨adL3, u, e1, hu, u0, u1, u2, u3, u4, u5, u6, u7⟩ := at_bk (Kd.C_below HL_19.out HZa.out) (i - 1) hi1
            cases e1
            obtain ⟨adS3, v, e1, hv, v0, v1, v2, v3, v4, v5, v6, v7⟩ := at_bk (Kd.C_below Hdu_19.out HZa.out) (i - 1) (by have := HF.out.len; omega)
            cases e1
            have HAD := Aside0.mk (HF.out.adj (i := i - 1) (j := i) (by omega) hv.out hy.out)
            have HK1 := Aside0.mk (HCB.out v y')
            have HK2 := Aside0.mk (HCB.out y' v)
            simp only [(HF.out.cb hv.out hy.out).1, (HF.out.cb hv.out hy.out).2] at HK1
            simp only [(HF.out.cb hy.out hv.out).1, (HF.out.cb hy.out hv.out).2, cmpBy_anti O v y'] at HK2
            have HOX := Aside0.mk (HOL.out _ (mem_of hx.out))
            have HOU := Aside0.mk (HOL.out _ (mem_of hu.out))
            have HM1 := Aside0.mk (HCI.out u x')
            have HM2 := Aside0.mk (HCU.out x' u HOX.out HOU.out)
            simp only [cmpU_anti u x'] at HM2
            have hcb := cmpBy_three O v y'
            have hcu := cmpU_three u x'
            have hle : cmpBy O v y' ≤ 0 := HAD.out
            generalize cmpBy O v y' = q at HK1 HK2 hcb hle
            generalize cmpU u x' = r at HM1 HM2 hcu
            have j0 : (1 : Int) ≤ (i : Int) := by omega
            have j1 : ((i : Int) - 1).toNat = i - 1 := by omega
            have j2 : (0 : Int) ≤ (i : Int) - 1 := by omega
            have j3 : (i : Int) - 1 < (L.length : Int) := by omega
            have j3' : (i : Int) - 1 < (S.length : Int) := by have := HF.out.len; omega
            have j4 : IntKind.i64.wrap ((i : Int) - 1) = (i : Int) - 1 := wrap_pred' i (by omega)
            have q1 : decide (0 < q) = false := decide_eq_false (by omega)
            have q1' : ¬ (0 < q) := by omega
            have q2 : IntKind.i64.wrap (-q) = -q := by rw [IntKind.wrap_i64]; omega
            have q3 : IntKind.i64.wrap (-(-r)) = r := by rw [IntKind.wrap_i64]; omega
            have q4 : IntKind.i64.wrap r = r := by rw [IntKind.wrap_i64]; omega
            have q5 : (-q != -q) = false := by simp
            have q6 : (r != r) = false := by simp
            have xO0 : ∀ p : Over wa, _ := Over.cell x0
            have xO1 : ∀ p : Over wa, _ := Over.cell x1
            have xO2 : ∀ p : Over wa, _ := Over.cell x2
            have xO3 : ∀ p : Over wa, _ := Over.cell x3
            have xO4 : ∀ p : Over wa, _ := Over.cell x4
            have xO5 : ∀ p : Over wa, _ := Over.cell x5
            have xO6 : ∀ p : Over wa, _ := Over.cell x6
            have xO7 : ∀ p : Over wa, _ := Over.cell x7
            have yO0 : ∀ p : Over wa, _ := Over.cell y0
            have yO1 : ∀ p : Over wa, _ := Over.cell y1
            have yO2 : ∀ p : Over wa, _ := Over.cell y2
            have yO3 : ∀ p : Over wa, _ := Over.cell y3
            have yO4 : ∀ p : Over wa, _ := Over.cell y4
            have yO5 : ∀ p : Over wa, _ := Over.cell y5
            have yO6 : ∀ p : Over wa, _ := Over.cell y6
            have yO7 : ∀ p : Over wa, _ := Over.cell y7
            have uO0 : ∀ p : Over wa, _ := Over.cell u0
            have uO1 : ∀ p : Over wa, _ := Over.cell u1
            have uO2 : ∀ p : Over wa, _ := Over.cell u2
            have uO3 : ∀ p : Over wa, _ := Over.cell u3
            have uO4 : ∀ p : Over wa, _ := Over.cell u4
            have uO5 : ∀ p : Over wa, _ := Over.cell u5
            have uO6 : ∀ p : Over wa, _ := Over.cell u6
            have uO7 : ∀ p : Over wa, _ := Over.cell u7
            have vO0 : ∀ p : Over wa, _ := Over.cell v0
            have vO1 : ∀ p : Over wa, _ := Over.cell v1
            have vO2 : ∀ p : Over wa, _ := Over.cell v2
            have vO3 : ∀ p : Over wa, _ := Over.cell v3
            have vO4 : ∀ p : Over wa, _ := Over.cell v4
            have vO5 : ∀ p : Over wa, _ := Over.cell v5
            have vO6 : ∀ p : Over wa, _ := Over.cell v6
            have vO7 : ∀ p : Over wa, _ := Over.cell v7
            clear hi0 hi1 HAD hcb hcu hle
            go_wp2_with fail
            refine region_over (by kernel_rfl) (by kernel_rfl) ?_
            repeat (go_big_quiet_step (first | (go_at_call 19; exact Calls.over_of (HK1.out _ (Kd.C_below HO_19.out (HZa.out.trans ((Over.h _).mono HZa.out.size)))))))
            refine wpQuiet_nil ?_
            intro wb hw'
            have hq_wb := over_out hw'
            clear hw'
            have HZb := Aside0.mk (bstep HZa.out hq_wb)
            clear xO0 xO1 xO2 xO3 xO4 xO5 xO6 xO7 yO0 yO1 yO2 yO3 yO4 yO5 yO6 yO7 uO0 uO1 uO2 uO3 uO4 uO5 uO6 uO7 vO0 vO1 vO2 vO3 vO4 vO5 vO6 vO7
            have x0 := pw_cell_below hq_wb x0
            have x1 := pw_cell_below hq_wb x1
            have x2 := pw_cell_below hq_wb x2
            have x3 := pw_cell_below hq_wb x3
            have x4 := pw_cell_below hq_wb x4
            have x5 := pw_cell_below hq_wb x5
            have x6 := pw_cell_below hq_wb x6
            have x7 := pw_cell_below hq_wb x7
            have y0 := pw_cell_below hq_wb y0
            have y1 := pw_cell_below hq_wb y1
            have y2 := pw_cell_below hq_wb y2
            have y3 := pw_cell_below hq_wb y3
            have y4 := pw_cell_below hq_wb y4
            have y5 := pw_cell_below hq_wb y5
            have y6 := pw_cell_below hq_wb y6
            have y7 := pw_cell_below hq_wb y7
            have u0 := pw_cell_below hq_wb u0
            have u1 := pw_cell_below hq_wb u1
            have u2 := pw_cell_below hq_wb u2
            have u3 := pw_cell_below hq_wb u3
            have u4 := pw_cell_below hq_wb u4
            have u5 := pw_cell_below hq_wb u5
            have u6 := pw_cell_below hq_wb u6
            have u7 := pw_cell_below hq_wb u7
            have v0 := pw_cell_below hq_wb v0
            have v1 := pw_cell_below hq_wb v1
            have v2 := pw_cell_below hq_wb v2
            have v3 := pw_cell_below hq_wb v3
            have v4 := pw_cell_below hq_wb v4
            have v5 := pw_cell_below hq_wb v5
            have v6 := pw_cell_below hq_wb v6
            have v7 := pw_cell_below hq_wb v7
            clear hq_wb
            have xO0 : ∀ p : Over wb, _ := Over.cell x0
            have xO1 : ∀ p : Over wb, _ := Over.cell x1
            have xO2 : ∀ p : Over wb, _ := Over.cell x2
            have xO3 : ∀ p : Over wb, _ := Over.cell x3
            have xO4 : ∀ p : Over wb, _ := Over.cell x4
            have xO5 : ∀ p : Over wb, _ := Over.cell x5
            have xO6 : ∀ p : Over wb, _ := Over.cell x6
            have xO7 : ∀ p : Over wb, _ := Over.cell x7
            have yO0 : ∀ p : Over wb, _ := Over.cell y0
            have yO1 : ∀ p : Over wb, _ := Over.cell y1
            have yO2 : ∀ p : Over wb, _ := Over.cell y2
            have yO3 : ∀ p : Over wb, _ := Over.cell y3
            have yO4 : ∀ p : Over wb, _ := Over.cell y4
            have yO5 : ∀ p : Over wb, _ := Over.cell y5
            have yO6 : ∀ p : Over wb, _ := Over.cell y6
            have yO7 : ∀ p : Over wb, _ := Over.cell y7
            have uO0 : ∀ p : Over wb, _ := Over.cell u0
            have uO1 : ∀ p : Over wb, _ := Over.cell u1
            have uO2 : ∀ p : Over wb, _ := Over.cell u2
            have uO3 : ∀ p : Over wb, _ := Over.cell u3
            have uO4 : ∀ p : Over wb, _ := Over.cell u4
            have uO5 : ∀ p : Over wb, _ := Over.cell u5
            have uO6 : ∀ p : Over wb, _ := Over.cell u6
            have uO7 : ∀ p : Over wb, _ := Over.cell u7
            have vO0 : ∀ p : Over wb, _ := Over.cell v0
            have vO1 : ∀ p : Over wb, _ := Over.cell v1
            have vO2 : ∀ p : Over wb, _ := Over.cell v2
            have vO3 : ∀ p : Over wb, _ := Over.cell v3
            have vO4 : ∀ p : Over wb, _ := Over.cell v4
            have vO5 : ∀ p : Over wb, _ := Over.cell v5
            have vO6 : ∀ p : Over wb, _ := Over.cell v6
            have vO7 : ∀ p : Over wb, _ := Over.cell v7
            go_wp2_with fail
            refine region_over (by kernel_rfl) (by kernel_rfl) ?_
            repeat (go_big_quiet_step (first | (go_at_call 19; exact Calls.over_of (HK2.out _ (Kd.C_below HO_19.out (HZb.out.trans ((Over.h _).mono HZb.out.size)))))))
            refine wpQuiet_nil ?_
            intro wc hw'
            have hq_wc := over_out hw'
            clear hw'
            have HZc := Aside0.mk (bstep HZb.out hq_wc)
            clear xO0 xO1 xO2 xO3 xO4 xO5 xO6 xO7 yO0 yO1 yO2 yO3 yO4 yO5 yO6 yO7 uO0 uO1 uO2 uO3 uO4 uO5 uO6 uO7 vO0 vO1 vO2 vO3 vO4 vO5 vO6 vO7
            have x0 := pw_cell_below hq_wc x0
            have x1 := pw_cell_below hq_wc x1
            have x2 := pw_cell_below hq_wc x2
            have x3 := pw_cell_below hq_wc x3
            have x4 := pw_cell_below hq_wc x4
            have x5 := pw_cell_below hq_wc x5
            have x6 := pw_cell_below hq_wc x6
            have x7 := pw_cell_below hq_wc x7
            have y0 := pw_cell_below hq_wc y0
            have y1 := pw_cell_below hq_wc y1
            have y2 := pw_cell_below hq_wc y2
            have y3 := pw_cell_below hq_wc y3
            have y4 := pw_cell_below hq_wc y4
            have y5 := pw_cell_below hq_wc y5
            have y6 := pw_cell_below hq_wc y6
            have y7 := pw_cell_below hq_wc y7
            have u0 := pw_cell_below hq_wc u0
            have u1 := pw_cell_below hq_wc u1
            have u2 := pw_cell_below hq_wc u2
            have u3 := pw_cell_below hq_wc u3
            have u4 := pw_cell_below hq_wc u4
            have u5 := pw_cell_below hq_wc u5
            have u6 := pw_cell_below hq_wc u6
            have u7 := pw_cell_below hq_wc u7
            have v0 := pw_cell_below hq_wc v0
            have v1 := pw_cell_below hq_wc v1
            have v2 := pw_cell_below hq_wc v2
            have v3 := pw_cell_below hq_wc v3
            have v4 := pw_cell_below hq_wc v4
            have v5 := pw_cell_below hq_wc v5
            have v6 := pw_cell_below hq_wc v6
            have v7 := pw_cell_below hq_wc v7
            clear hq_wc
            have xO0 : ∀ p : Over wc, _ := Over.cell x0
            have xO1 : ∀ p : Over wc, _ := Over.cell x1
            have xO2 : ∀ p : Over wc, _ := Over.cell x2
            have xO3 : ∀ p : Over wc, _ := Over.cell x3
            have xO4 : ∀ p : Over wc, _ := Over.cell x4
            have xO5 : ∀ p : Over wc, _ := Over.cell x5
            have xO6 : ∀ p : Over wc, _ := Over.cell x6
            have xO7 : ∀ p : Over wc, _ := Over.cell x7
            have yO0 : ∀ p : Over wc, _ := Over.cell y0
            have yO1 : ∀ p : Over wc, _ := Over.cell y1
            have yO2 : ∀ p : Over wc, _ := Over.cell y2
            have yO3 : ∀ p : Over wc, _ := Over.cell y3
            have yO4 : ∀ p : Over wc, _ := Over.cell y4
            have yO5 : ∀ p : Over wc, _ := Over.cell y5
            have yO6 : ∀ p : Over wc, _ := Over.cell y6
            have yO7 : ∀ p : Over wc, _ := Over.cell y7
            have uO0 : ∀ p : Over wc, _ := Over.cell u0
            have uO1 : ∀ p : Over wc, _ := Over.cell u1
            have uO2 : ∀ p : Over wc, _ := Over.cell u2
            have uO3 : ∀ p : Over wc, _ := Over.cell u3
            have uO4 : ∀ p : Over wc, _ := Over.cell u4
            have uO5 : ∀ p : Over wc, _ := Over.cell u5
            have uO6 : ∀ p : Over wc, _ := Over.cell u6
            have uO7 : ∀ p : Over wc, _ := Over.cell u7
            have vO0 : ∀ p : Over wc, _ := Over.cell v0
            have vO1 : ∀ p : Over wc, _ := Over.cell v1
            have vO2 : ∀ p : Over wc, _ := Over.cell v2
            have vO3 : ∀ p : Over wc, _ := Over.cell v3
            have vO4 : ∀ p : Over wc, _ := Over.cell v4
            have vO5 : ∀ p : Over wc, _ := Over.cell v5
            have vO6 : ∀ p : Over wc, _ := Over.cell v6
            have vO7 : ∀ p : Over wc, _ := Over.cell v7
            go_wp2_with fail
            refine region_over (by kernel_rfl) (by kernel_rfl) ?_
            repeat (go_big_quiet_step (first | (go_at_call 20; exact Calls.over_of (HM1.out _)) | (go_at_call 21; exact Calls.over_of (HM2.out _))))
            refine wpQuiet_nil ?_
            intro wd hw'
            have hq_wd := over_out hw'
            clear hw'
            have HZd := Aside0.mk (bstep HZc.out hq_wd)
            clear hq_wd xO0 xO1 xO2 xO3 xO4 xO5 xO6 xO7 yO0 yO1 yO2 yO3 yO4 yO5 yO6 yO7 uO0 uO1 uO2 uO3 uO4 uO5 uO6 uO7 vO0 vO1 vO2 vO3 vO4 vO5 vO6 vO7 x0 x1 x2 x3 x4 x5 x6 x7 y0 y1 y2 y3 y4 y5 y6 y7 u0 u1 u2 u3 u4 u5 u6 u7 v0 v1 v2 v3 v4 v5 v6 v7
            go_wp2
            go_roundg (gk - 1)
            case measure => have := HK.out; omega
            case rel => exact ⟨i + 1, by have := HK.out; omega, by go_num, HZd⟩
        · have hni : ¬ ((i : Int) < (L.length : Int)) := by omega
          clear hk hlt HCN HCL HCB HCI HCU
          obtain ⟨w20, rfl⟩ : ∃ W : World, W = wr := ⟨_, rfl⟩
          have hb := HZ.out
          have HL_20 := Aside0.mk (Kd.C_below HL_19.out hb)
          have HT_20 := Aside0.mk (HT_19.out.below hb)
          have HB_20 := Aside0.mk (bstep HB_19.out hb)
          clear hb
          have HRI := Aside0.mk (fun W h => RunsOf_c Al cl L W h)
          have HRS := Aside0.mk (fun W h => specRunsOf_c Al cl L HOL.out W h)
          have HFO := Aside0.mk (fun W h => FirstOut_c Al cl L W h)
          have HLI := Aside0.mk (fun W h => LongestRun_c Al cl L W h)
          have HLS := Aside0.mk (fun W h => specLongestRun_c Al cl L HOL.out W h)
          have HER := Aside0.mk (fun A A' c c' W h1 h2 => SameNumbers_c A A' c c' (runsL L) (runsL L) W h1 h2)
          have HHN := Aside0.mk (fun A c n W h => HasNumber_c A c (runsL L) n W h)
          simp only [show decide (runsL L = runsL L) = true from decide_eq_true rfl] at HER
          simp only [(rv_ok HVS.out).1, (pv_ok HVS.out).2] at HRI HRS
          rcases HCS.out with ⟨hz, hp0, h1, h2, h3, h4⟩ | ⟨hz, hp0, h1, h2, h3, h4⟩ | ⟨hz, hp0, h1, h2, h3, h4⟩
          · as_aux_lemma =>
              have HRL := Aside0.mk h3
              simp only [h1, h2] at HFO
              simp only [h4.1, h4.2.1, h4.2.2] at HLI HLS
              have k0 : ¬ (0 : Int) < (L.length : Int) := by omega
              have k0' : ¬ 0 < L.length := by omega
              have kp : ¬ (0 : Int) < p := by omega
              have k1 : ¬ (1 : Int) < ((runsL L).length : Int) := by omega
              have k2 : ¬ 1 < (runsL L).length := by omega
              obtain ⟨R, hR⟩ : ∃ R, runsL L = R := ⟨_, rfl⟩
              rw [hR] at HRI HRS HER HRL k1 k2
              clear hR h1 h2 h3 h4 HHN HCS hz hp0
              clear HRL
              go_wp2_with fail
              refine (HRI.out _ HL_20.out).mono ?_; rintro _ w21 ⟨_, rfl, hb, vru, rfl, hv⟩
              have HL_21 := Aside0.mk (Kd.C_below HL_20.out hb)
              have HT_21 := Aside0.mk (HT_20.out.below hb)
              have HB_21 := Aside0.mk (bstep HB_20.out hb)
              clear hb
              obtain ⟨Aru, dru, rfl, lru⟩ : ∃ A d, vru = .slice A R.length d ∧ R.length ≤ d := by obtain ⟨A, d, e1, e2, _⟩ := Kd.R_reads hv; exact ⟨A, d, e1, e2⟩
              have Hru_21 := Aside0.mk (show (Kd.int .i64).C w21 Aru R.length R from (Kd.R_reads' hv).2.2)
              clear hv
              go_wp2_with fail
              refine (HRS.out _ HL_21.out).mono ?_; rintro _ w22 ⟨_, rfl, hb, vst, rfl, hv⟩
              have HL_22 := Aside0.mk (Kd.C_below HL_21.out hb)
              have HT_22 := Aside0.mk (HT_21.out.below hb)
              have HB_22 := Aside0.mk (bstep HB_21.out hb)
              have Hru_22 := Aside0.mk (Kd.C_below Hru_21.out hb)
              clear hb
              obtain ⟨Ast, dst, rfl, lst⟩ : ∃ A d, vst = .slice A R.length d ∧ R.length ≤ d := by obtain ⟨A, d, e1, e2, _⟩ := Kd.R_reads hv; exact ⟨A, d, e1, e2⟩
              have Hst_22 := Aside0.mk (show (Kd.int .i64).C w22 Ast R.length R from (Kd.R_reads' hv).2.2)
              clear hv
              go_wp2_with fail
              refine (HFO.out _ HL_22.out).mono ?_; rintro _ w23 ⟨rfl, hb⟩
              have HL_23 := Aside0.mk (Kd.C_below HL_22.out hb)
              have HT_23 := Aside0.mk (HT_22.out.below hb)
              have HB_23 := Aside0.mk (bstep HB_22.out hb)
              have Hru_23 := Aside0.mk (Kd.C_below Hru_22.out hb)
              have Hst_23 := Aside0.mk (Kd.C_below Hst_22.out hb)
              clear hb
              go_wp2_with fail
              refine (HLI.out _ HL_23.out).mono ?_; rintro _ w24 ⟨rfl, hb⟩
              have HL_24 := Aside0.mk (Kd.C_below HL_23.out hb)
              have HT_24 := Aside0.mk (HT_23.out.below hb)
              have HB_24 := Aside0.mk (bstep HB_23.out hb)
              have Hru_24 := Aside0.mk (Kd.C_below Hru_23.out hb)
              have Hst_24 := Aside0.mk (Kd.C_below Hst_23.out hb)
              clear hb
              go_wp2_with fail
              refine (HLS.out _ HL_24.out).mono ?_; rintro _ w25 ⟨rfl, hb⟩
              have HL_25 := Aside0.mk (Kd.C_below HL_24.out hb)
              have HT_25 := Aside0.mk (HT_24.out.below hb)
              have HB_25 := Aside0.mk (bstep HB_24.out hb)
              have Hru_25 := Aside0.mk (Kd.C_below Hru_24.out hb)
              have Hst_25 := Aside0.mk (Kd.C_below Hst_24.out hb)
              clear hb
              go_wp2_with fail
              refine (HER.out _ _ _ _ _ Hru_25.out Hst_25.out).mono ?_; rintro _ w26 ⟨rfl, hb⟩
              have HL_26 := Aside0.mk (Kd.C_below HL_25.out hb)
              have HT_26 := Aside0.mk (HT_25.out.below hb)
              have HB_26 := Aside0.mk (bstep HB_25.out hb)
              have Hru_26 := Aside0.mk (Kd.C_below Hru_25.out hb)
              have Hst_26 := Aside0.mk (Kd.C_below Hst_25.out hb)
              clear hb
              have hmr := Kd.C_max Hst_26.out
              go_wp2
              go_ret
              exact ⟨rfl, HB_26.out⟩
          · as_aux_lemma =>
              have HRL := Aside0.mk h3
              simp only [h1, h2] at HFO
              simp only [h4.1, h4.2.1, h4.2.2.1] at HLI HLS
              have k0 : (0 : Int) < (L.length : Int) := by omega
              have k0' : 0 < L.length := by omega
              have kp : ¬ (0 : Int) < p := by omega
              have k1 : ¬ (1 : Int) < ((runsL L).length : Int) := by omega
              have k2 : ¬ 1 < (runsL L).length := by omega
              obtain ⟨m1, m2, m3⟩ := h4.2.2.2
              have HHN2 := Aside0.mk (fun A c W h => HHN.out A c (longest L).1 W h)
              simp only [show decide ((longest L).1 ∈ runsL L) = true from decide_eq_true m1] at HHN2
              have m4 := runsN_mem m1
              generalize (longest L).1 = lb at HLI HLS HHN2 m3 m4
              generalize (longest L).2 = lm at HLI HLS m2 m3
              have m5 : IntKind.i64.wrap (lb + lm) = lb + lm := by rw [IntKind.wrap_i64]; omega
              clear m1
              obtain ⟨R, hR⟩ : ∃ R, runsL L = R := ⟨_, rfl⟩
              rw [hR] at HRI HRS HER HRL HHN2 k1 k2
              clear hR h1 h2 h3 h4 HHN HCS hz hp0
              clear HRL
              go_wp2_with fail
              refine (HRI.out _ HL_20.out).mono ?_; rintro _ w21 ⟨_, rfl, hb, vru, rfl, hv⟩
              have HL_21 := Aside0.mk (Kd.C_below HL_20.out hb)
              have HT_21 := Aside0.mk (HT_20.out.below hb)
              have HB_21 := Aside0.mk (bstep HB_20.out hb)
              clear hb
              obtain ⟨Aru, dru, rfl, lru⟩ : ∃ A d, vru = .slice A R.length d ∧ R.length ≤ d := by obtain ⟨A, d, e1, e2, _⟩ := Kd.R_reads hv; exact ⟨A, d, e1, e2⟩
              have Hru_21 := Aside0.mk (show (Kd.int .i64).C w21 Aru R.length R from (Kd.R_reads' hv).2.2)
              clear hv
              go_wp2_with fail
              refine (HRS.out _ HL_21.out).mono ?_; rintro _ w22 ⟨_, rfl, hb, vst, rfl, hv⟩
              have HL_22 := Aside0.mk (Kd.C_below HL_21.out hb)
              have HT_22 := Aside0.mk (HT_21.out.below hb)
              have HB_22 := Aside0.mk (bstep HB_21.out hb)
              have Hru_22 := Aside0.mk (Kd.C_below Hru_21.out hb)
              clear hb
              obtain ⟨Ast, dst, rfl, lst⟩ : ∃ A d, vst = .slice A R.length d ∧ R.length ≤ d := by obtain ⟨A, d, e1, e2, _⟩ := Kd.R_reads hv; exact ⟨A, d, e1, e2⟩
              have Hst_22 := Aside0.mk (show (Kd.int .i64).C w22 Ast R.length R from (Kd.R_reads' hv).2.2)
              clear hv
              go_wp2_with fail
              refine (HFO.out _ HL_22.out).mono ?_; rintro _ w23 ⟨rfl, hb⟩
              have HL_23 := Aside0.mk (Kd.C_below HL_22.out hb)
              have HT_23 := Aside0.mk (HT_22.out.below hb)
              have HB_23 := Aside0.mk (bstep HB_22.out hb)
              have Hru_23 := Aside0.mk (Kd.C_below Hru_22.out hb)
              have Hst_23 := Aside0.mk (Kd.C_below Hst_22.out hb)
              clear hb
              go_wp2_with fail
              refine (HLI.out _ HL_23.out).mono ?_; rintro _ w24 ⟨rfl, hb⟩
              have HL_24 := Aside0.mk (Kd.C_below HL_23.out hb)
              have HT_24 := Aside0.mk (HT_23.out.below hb)
              have HB_24 := Aside0.mk (bstep HB_23.out hb)
              have Hru_24 := Aside0.mk (Kd.C_below Hru_23.out hb)
              have Hst_24 := Aside0.mk (Kd.C_below Hst_23.out hb)
              clear hb
              go_wp2_with fail
              refine (HLS.out _ HL_24.out).mono ?_; rintro _ w25 ⟨rfl, hb⟩
              have HL_25 := Aside0.mk (Kd.C_below HL_24.out hb)
              have HT_25 := Aside0.mk (HT_24.out.below hb)
              have HB_25 := Aside0.mk (bstep HB_24.out hb)
              have Hru_25 := Aside0.mk (Kd.C_below Hru_24.out hb)
              have Hst_25 := Aside0.mk (Kd.C_below Hst_24.out hb)
              clear hb
              go_wp2_with fail
              refine (HER.out _ _ _ _ _ Hru_25.out Hst_25.out).mono ?_; rintro _ w26 ⟨rfl, hb⟩
              have HL_26 := Aside0.mk (Kd.C_below HL_25.out hb)
              have HT_26 := Aside0.mk (HT_25.out.below hb)
              have HB_26 := Aside0.mk (bstep HB_25.out hb)
              have Hru_26 := Aside0.mk (Kd.C_below Hru_25.out hb)
              have Hst_26 := Aside0.mk (Kd.C_below Hst_25.out hb)
              clear hb
              have hmr := Kd.C_max Hst_26.out
              go_wp2_with fail
              refine (HHN2.out _ _ _ Hst_26.out).mono ?_; rintro _ w27 ⟨rfl, hb⟩
              have HL_27 := Aside0.mk (Kd.C_below HL_26.out hb)
              have HT_27 := Aside0.mk (HT_26.out.below hb)
              have HB_27 := Aside0.mk (bstep HB_26.out hb)
              have Hru_27 := Aside0.mk (Kd.C_below Hru_26.out hb)
              have Hst_27 := Aside0.mk (Kd.C_below Hst_26.out hb)
              clear hb
              have m6 : decide (1 ≤ lm) = true := decide_eq_true m2
              have m7 : decide (lb + lm ≤ (L.length : Int)) = true := decide_eq_true m3
              go_wp2
              go_ret
              exact ⟨by simp [m2, m3], HB_27.out⟩
          · as_aux_lemma =>
              have HRL := Aside0.mk h3
              simp only [h1, h2] at HFO
              simp only [h4.1, h4.2.1, h4.2.2.1] at HLI HLS
              have k0 : (0 : Int) < (L.length : Int) := by omega
              have k0' : 0 < L.length := by omega
              have kp : (0 : Int) < p := hp0
              have k1 : ¬ ((runsL L).length : Int) < 2 := by omega
              have k2 : ¬ (runsL L).length < 2 := by omega
              have k3 : (1 : Int) < ((runsL L).length : Int) := by omega
              have k4 : 1 < (runsL L).length := by omega
              obtain ⟨m1, m2, m3⟩ := h4.2.2.2
              have HHN2 := Aside0.mk (fun A c W h => HHN.out A c (longest L).1 W h)
              simp only [show decide ((longest L).1 ∈ runsL L) = true from decide_eq_true m1] at HHN2
              have m4 := runsN_mem m1
              generalize (longest L).1 = lb at HLI HLS HHN2 m3 m4
              generalize (longest L).2 = lm at HLI HLS m2 m3
              have m5 : IntKind.i64.wrap (lb + lm) = lb + lm := by rw [IntKind.wrap_i64]; omega
              clear m1
              have HSEC := Aside0.mk (runs_second (L := L) (by have := hz.2; omega))
              generalize outOf L = fo at HFO HSEC
              obtain ⟨R, hR⟩ : ∃ R, runsL L = R := ⟨_, rfl⟩
              rw [hR] at HRI HRS HER HRL HHN2 HSEC k1 k2 k3 k4
              clear hR h1 h2 h3 h4 HHN HCS hz hp0
              clear HRL
              go_wp2_with fail
              refine (HRI.out _ HL_20.out).mono ?_; rintro _ w21 ⟨_, rfl, hb, vru, rfl, hv⟩
              have HL_21 := Aside0.mk (Kd.C_below HL_20.out hb)
              have HT_21 := Aside0.mk (HT_20.out.below hb)
              have HB_21 := Aside0.mk (bstep HB_20.out hb)
              clear hb
              obtain ⟨Aru, dru, rfl, lru⟩ : ∃ A d, vru = .slice A R.length d ∧ R.length ≤ d := by obtain ⟨A, d, e1, e2, _⟩ := Kd.R_reads hv; exact ⟨A, d, e1, e2⟩
              have Hru_21 := Aside0.mk (show (Kd.int .i64).C w21 Aru R.length R from (Kd.R_reads' hv).2.2)
              clear hv
              go_wp2_with fail
              refine (HRS.out _ HL_21.out).mono ?_; rintro _ w22 ⟨_, rfl, hb, vst, rfl, hv⟩
              have HL_22 := Aside0.mk (Kd.C_below HL_21.out hb)
              have HT_22 := Aside0.mk (HT_21.out.below hb)
              have HB_22 := Aside0.mk (bstep HB_21.out hb)
              have Hru_22 := Aside0.mk (Kd.C_below Hru_21.out hb)
              clear hb
              obtain ⟨Ast, dst, rfl, lst⟩ : ∃ A d, vst = .slice A R.length d ∧ R.length ≤ d := by obtain ⟨A, d, e1, e2, _⟩ := Kd.R_reads hv; exact ⟨A, d, e1, e2⟩
              have Hst_22 := Aside0.mk (show (Kd.int .i64).C w22 Ast R.length R from (Kd.R_reads' hv).2.2)
              clear hv
              go_wp2_with fail
              refine (HFO.out _ HL_22.out).mono ?_; rintro _ w23 ⟨rfl, hb⟩
              have HL_23 := Aside0.mk (Kd.C_below HL_22.out hb)
              have HT_23 := Aside0.mk (HT_22.out.below hb)
              have HB_23 := Aside0.mk (bstep HB_22.out hb)
              have Hru_23 := Aside0.mk (Kd.C_below Hru_22.out hb)
              have Hst_23 := Aside0.mk (Kd.C_below Hst_22.out hb)
              clear hb
              go_wp2_with fail
              refine (HLI.out _ HL_23.out).mono ?_; rintro _ w24 ⟨rfl, hb⟩
              have HL_24 := Aside0.mk (Kd.C_below HL_23.out hb)
              have HT_24 := Aside0.mk (HT_23.out.below hb)
              have HB_24 := Aside0.mk (bstep HB_23.out hb)
              have Hru_24 := Aside0.mk (Kd.C_below Hru_23.out hb)
              have Hst_24 := Aside0.mk (Kd.C_below Hst_23.out hb)
              clear hb
              go_wp2_with fail
              refine (HLS.out _ HL_24.out).mono ?_; rintro _ w25 ⟨rfl, hb⟩
              have HL_25 := Aside0.mk (Kd.C_below HL_24.out hb)
              have HT_25 := Aside0.mk (HT_24.out.below hb)
              have HB_25 := Aside0.mk (bstep HB_24.out hb)
              have Hru_25 := Aside0.mk (Kd.C_below Hru_24.out hb)
              have Hst_25 := Aside0.mk (Kd.C_below Hst_24.out hb)
              clear hb
              go_wp2_with fail
              refine (HER.out _ _ _ _ _ Hru_25.out Hst_25.out).mono ?_; rintro _ w26 ⟨rfl, hb⟩
              have HL_26 := Aside0.mk (Kd.C_below HL_25.out hb)
              have HT_26 := Aside0.mk (HT_25.out.below hb)
              have HB_26 := Aside0.mk (bstep HB_25.out hb)
              have Hru_26 := Aside0.mk (Kd.C_below Hru_25.out hb)
              have Hst_26 := Aside0.mk (Kd.C_below Hst_25.out hb)
              clear hb
              have hmr := Kd.C_max Hst_26.out
              obtain ⟨adR, s1, rfl, hs1, hxs⟩ := at_int' Hst_26.out 1 (by omega)
              obtain rfl : s1 = fo := by have h1 := hs1.out; rw [HSEC.out] at h1; exact (Option.some.inj h1).symm
              have hxs2 : w26.cell? ⟨adR.block, adR.off + 1, none⟩ = some (.int .i64 s1) := hxs
              go_wp2_with fail
              refine (HHN2.out _ _ _ Hst_26.out).mono ?_; rintro _ w27 ⟨rfl, hb⟩
              have HL_27 := Aside0.mk (Kd.C_below HL_26.out hb)
              have HT_27 := Aside0.mk (HT_26.out.below hb)
              have HB_27 := Aside0.mk (bstep HB_26.out hb)
              have Hru_27 := Aside0.mk (Kd.C_below Hru_26.out hb)
              have Hst_27 := Aside0.mk (Kd.C_below Hst_26.out hb)
              clear hb
              have m6 : decide (1 ≤ lm) = true := decide_eq_true m2
              have m7 : decide (lb + lm ≤ (L.length : Int)) = true := decide_eq_true m3
              go_wp2
              go_ret
              exact ⟨by simp [m2, m3], HB_27.out⟩
end Go.Proofs.YtkoaangakmpggaaGreatDoor
end
