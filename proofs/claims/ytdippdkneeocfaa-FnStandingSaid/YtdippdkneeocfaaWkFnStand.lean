/- The law FnStanding returns true of every input. -/
import Derived.Test.YtdippdkneeocfaaStanX
import Derived.StillTailTactics
import Derived.Still
import Derived.Deep.QuietTactic
import Derived.BigQuiet
import Derived.Deep.RegionHeld3
namespace Go.Proofs.Ytdippdkneeocfaa
open Go.RowKit Go.Proofs.YtdippdkneeocfaaW.PrintWords Go.Proofs.YtdippdkneeocfaaW.PrintMore
set_option linter.unusedVariables false
set_option linter.unusedSimpArgs false
set_option maxRecDepth 100000

set_option maxHeartbeats 16000000 in
theorem FnStanding_c {w : World} (A0 : Option Addr) (c0 : Nat) (L0 : List Int) (hlc0 : L0.length ≤ c0) (hL0 : (Kd.int .u8).C w A0 L0.length L0) (hok0 : ∀ x, x ∈ L0 → 0 ≤ x ∧ x ≤ 255) (A1 : Option Addr) (c1 : Nat) (L1 : List Int) (hlc1 : L1.length ≤ c1) (hL1 : (Kd.int .u8).C w A1 L1.length L1) (hok1 : ∀ x, x ∈ L1 → 0 ≤ x ∧ x ≤ 255) :
    Calls Try.prog 21 #[.slice A0 L0.length c0, .slice A1 L1.length c1] w (Ret w (.bool true)) := by
  have hr0 := Kd.C_max hL0
  have hr1 := Kd.C_max hL1
  have HA := Aside0.mk (a2Long_c A0 A1 L0.length L1.length c0 c1 hr0 hr1 w)
  have HL0 := Aside0.mk hL0
  have HL1 := Aside0.mk hL1
  have HO0 := Aside0.mk hok0
  have HO1 := Aside0.mk hok1
  clear hL0 hL1 hok0 hok1
  by_cases hlong : 3000 < L0.length ∨ 3000 < L1.length
  · rw [decide_eq_true hlong] at HA
    clear hlong
    go_enter Try.func21, Try.ntmps21
    go_wp2_with fail
    refine HA.out.mono ?_; rintro _ w0 ⟨rfl, rfl⟩
    go_wp2
    go_ret
    exact ⟨rfl, Below.refl _ _⟩
  · rw [decide_eq_false hlong] at HA
    clear hlong
    go_enter Try.func21, Try.ntmps21
    go_wp2_with fail
    refine HA.out.mono ?_; rintro _ w0 ⟨rfl, rfl⟩
    go_wp2_with fail
    refine (A2Case_c A0 c0 L0 w HL0.out HO0.out).mono ?_; rintro _ w1 ⟨_, rfl, hb1, k, Ak, ck, rfl, hrow, hv, hok⟩
    have HV := Aside0.mk hv
    have HOK := Aside0.mk hok
    have HC1 := Aside0.mk (Kd.R_reads' hrow).2.2
    have hlk := (Kd.R_reads' hrow).2.1
    have HB1 := Aside0.mk hb1
    simp only [Cs.val]
    clear hv hok hrow hb1 HA
    go_wp2_with fail
    have hx2 := CsAt.box w1 k Ak ck 51
    have hb2 : Below w1.heap.size w1 (w1.alloc (.cells #[.int .i16 k.wd, .int .i32 k.ld, .slice Ak k.hs.length ck] 51)) := balloc (Below.refl _ _) _
    generalize World.alloc w1 _ = w2 at hx2 hb2 ⊢
    generalize w1.heap.size = P at hx2 ⊢
    have HX2 := Aside0.mk hx2
    have HC2 := Aside0.mk (Kd.C_below HC1.out hb2)
    have HB2 := Aside0.mk (bstep HB1.out hb2)
    clear hx2 hb2
    refine (A2Books_c A1 c1 L1 w2 (Kd.C_below HL1.out HB2.out) HO1.out).mono ?_; rintro _ w3 ⟨vl, rfl, hb, L, hRL, hVB, hl8⟩
    obtain ⟨Al, cl, rfl⟩ := Kd.R_slice hRL
    obtain ⟨hvb, hokl⟩ := VB.books hVB hl8
    have HVB := Aside0.mk hvb
    have HOL := Aside0.mk hokl
    have hll := (Kd.R_reads' hRL).2.1
    have HL_3 := Aside0.mk (Kd.R_reads' hRL).2.2
    have HX_3 := Aside0.mk (HX2.out.below hb)
    have HC_3 := Aside0.mk (Kd.C_below HC2.out hb)
    have HB_3 := Aside0.mk (bstep HB2.out hb)
    have HE0 := Aside0.mk (eCL_0 HV.out HVB.out)
    have hm := Kd.C_max HC_3.out
    have hml := Kd.C_max HL_3.out
    have hn1 := (vCase_bd HV.out).n.1
    have hn12 := (vCase_bd HV.out).n.2
    clear hb hRL hVB hvb hokl HC1 HB1 HX2 HC2 HB2
    have HLS := Aside0.mk (fun W h1 h2 => specLeastCost_c k Ak ck Al cl L HOK.out HOL.out hll W h1 h2)
    have HFL := Aside0.mk (fun W h1 h2 => specFillShelves_c k Ak ck Al cl L HOK.out HOL.out hll W h1 h2)
    have HWI := Aside0.mk (fun A2 c2 E b W h1 h2 h3 => WhereIs_c k Ak ck Al cl L A2 c2 E b HOK.out HOL.out hll W h1 h2 h3)
    have HWS := Aside0.mk (fun A2 c2 E b W h1 h2 h3 => specWhereIs_c k Ak ck Al cl L A2 c2 E b HOK.out HOL.out hll W h1 h2 h3)
    have HBA := Aside0.mk (fun A2 c2 E sh pl W h1 h2 h3 => BookAt_c k Ak ck Al cl L A2 c2 E sh pl HOK.out HOL.out hll W h1 h2 h3)
    have HSC := Aside0.mk (fun A2 c2 E b W h1 h2 h3 => ShelfOfClass_c k Ak ck Al cl L A2 c2 E b HOK.out HOL.out hll W h1 h2 h3)
    simp only [Cs.val] at HLS HFL HWI HWS HBA HSC
    by_cases h00 : tb (taL k (sqL k) L) 0 0 = -1
    · have hq := be_none (pz := sqL k) HE0.out h00
      rw [hq.1, hq.2.1, hq.2.2] at HLS
      clear hq h00
      obtain ⟨y0, y1, y2⟩ := HX_3.out
      go_wp2_with fail
      refine (HLS.out _ HC_3.out HL_3.out).mono ?_; rintro _ w4 ⟨_, rfl, hb, v, rfl, hvv⟩
      have HB4 := Aside0.mk (bstep HB_3.out hb)
      clear hb hvv y0 y1 y2
      go_wp2_with fail
      go_ret
      exact ⟨rfl, HB4.out⟩
    · have hq := be_ok (pz := sqL k) HE0.out h00
      have HY := Aside0.mk (bs_lay (pz := sqL k) HV.out HVB.out h00)
      rw [hq.1, hq.2.1, hq.2.2] at HLS
      generalize bsEnds k (sqL k) L (taL k (sqL k) L) k.hs.length = E at HLS HY
      generalize tb (taL k (sqL k) L) 0 0 = t0 at HLS
      have HEN := Aside0.mk HY.out.n
      have he12 : E.length ≤ 12 := by have := HEN.out; omega
      have HGE := Aside0.mk (fun s (h : s < E.length) => (HY.out.s s h).1)
      clear hq h00
      obtain ⟨y0, y1, y2⟩ := HX_3.out
      go_wp2_with fail
      refine (HLS.out _ HC_3.out HL_3.out).mono ?_; rintro _ w4 ⟨_, rfl, hb, vE, rfl, hvv⟩
      have HX_4 := Aside0.mk ((CsAt.below HX_3.out hb))
      have HC_4 := Aside0.mk ((Kd.C_below HC_3.out hb))
      have HL_4 := Aside0.mk ((Kd.C_below HL_3.out hb))
      have HB_4 := Aside0.mk (bstep HB_3.out hb)
      obtain ⟨AE, dE, rfl, lE⟩ : ∃ A d, vE = .slice A E.length d ∧ E.length ≤ d := by obtain ⟨A, d, e1, e2, _⟩ := Kd.R_reads hvv; exact ⟨A, d, e1, e2⟩
      have HE_4 := Aside0.mk (show (Kd.int .i64).C w4 AE E.length E from (Kd.R_reads' hvv).2.2)
      clear hb hvv
      clear y0 y1 y2
      have HRZ := Aside0.mk (R_zero (Kd.int .i64) 2 w4 w4.heap.size (fun _ => True) (Nat.le_refl _) trivial)
      have HBZ := Aside0.mk (balloc (Below.refl w4.heap.size w4) (.cells #[] 2))
      go_wp2_with fail
      go_loopg [10, 11] L.length (fun gk v10 v11 wr => ∃ i : Nat, i + gk = L.length ∧ v11 = .int .i64 i ∧ Aside0 ((Kd.int .i64).R 2 wr w4.heap.size (fun _ => True) v10 (shS E i)) ∧ Aside0 (Below w4.heap.size w4 wr))
      case atStart => exact ⟨0, by omega, rfl, HRZ, HBZ⟩
      case round =>
        clear HRZ HBZ
        obtain ⟨i, hk, rfl, HR, HZ⟩ := hrel
        have HK := Aside0.mk hk
        by_cases hlt : i < L.length
        · have HXr := Aside0.mk (HX_4.out.below HZ.out)
          obtain ⟨y0, y1, y2⟩ := HXr.out
          obtain ⟨hw1, hw2, hw3⟩ := wh_at HY.out hlt
          obtain ⟨s1, s2, s3⟩ := sh_in HY.out (b := (i : Int)) (by omega) (by omega)
          obtain ⟨b, hbi⟩ : ∃ b, L[i]? = some b := ⟨_, List.getElem?_eq_getElem hlt⟩
          have HBI := Aside0.mk hbi
          have HBV := Aside0.mk ((FitOk.of HVB.out).bk b (mem_of hbi)).1
          obtain ⟨p1, p2⟩ := wdS_bd (FitOk.of HVB.out) (bef E (shOf E i)) (i : Int)
          have HBA0 := Aside0.mk (fun pl h1 h2 => ba_at HY.out hbi pl h1 h2)
          have HW1 := Aside0.mk (HWI.out AE dE E (i : Int) wr (Kd.C_below HC_4.out HZ.out) (Kd.C_below HL_4.out HZ.out) (Kd.C_below HE_4.out HZ.out))
          rw [hw1, hw2, hw3] at HW1
          have HW2 := Aside0.mk (fun W (h : Below w4.heap.size w4 W) => HWS.out AE dE E (i : Int) W (Kd.C_below HC_4.out h) (Kd.C_below HL_4.out h) (Kd.C_below HE_4.out h))
          simp only [hw1, hw2, hw3] at HW2
          have HSS := Aside0.mk (shS_succ E i)
          have hsl := shS_len E i
          have HBEF := Aside0.mk (show ∀ e, (shOf E i ≠ 0) → E[shOf E i - 1]? = some e → e ≤ (i : Int) from fun e h0 he => by have := s2; unfold bef at this; rw [if_neg h0, getD_of he] at this; exact this)
          have HGT := Aside0.mk (show ∀ e, E[shOf E i]? = some e → (i : Int) < e from fun e he => by rw [← getD_of he]; exact s3)
          obtain ⟨pl, hpl⟩ : ∃ p, wdS L (bef E (shOf E i)) (i : Int) = p := ⟨_, rfl⟩
          rw [hpl] at HW1 HW2 HBA0 p1 p2
          clear hpl s2 s3 hw1 hw2 hw3 hbi
          obtain ⟨sh, hsh⟩ : ∃ s, shOf E i = s := ⟨_, rfl⟩
          rw [hsh] at HW1 HW2 HBA0 HSS s1 HBEF HGT
          clear hsh hk
          have j1 : ¬ ((sh : Int) < 0) := by omega
          have j2 : ¬ ((E.length : Int) ≤ (sh : Int)) := by omega
          have j3 : (0 : Int) ≤ (sh : Int) := by omega
          have j4 : (sh : Int) < (E.length : Int) := by omega
          have j5 : (i : Int) < (L.length : Int) := by omega
          have j6 : (0 : Int) ≤ (i : Int) := by omega
          go_wp2_with fail
          refine HW1.out.mono ?_; rintro _ wa ⟨rfl, hb⟩
          have HZa := Aside0.mk (bstep HZ.out hb)
          have HRa := Aside0.mk (Kd.R_below HR.out hb)
          clear hb y0 y1 y2 HW1
          obtain ⟨y0, y1, y2⟩ := HX_4.out.below HZa.out
          go_wp2_with fail
          refine (HW2.out _ HZa.out).mono ?_; rintro _ wb ⟨rfl, hb⟩
          have HZb := Aside0.mk (bstep HZa.out hb)
          have HRb := Aside0.mk (Kd.R_below HRa.out hb)
          clear hb y0 y1 y2 HW2
          obtain ⟨y0, y1, y2⟩ := HX_4.out.below HZb.out
          obtain ⟨adE, e, rfl, hbe, hxe⟩ := at_int' (Kd.C_below HE_4.out HZb.out) sh s1
          have j7 : ¬ (e ≤ (i : Int)) := by have := HGT.out e hbe.out; omega
          have HC1 := Aside0.mk (HBA.out (some adE) dE E (sh : Int) pl wb (Kd.C_below HC_4.out HZb.out) (Kd.C_below HL_4.out HZb.out) (Kd.C_below HE_4.out HZb.out))
          rw [(HBA0.out pl (Int.le_refl _) (by have := HBV.out; omega)).1, (HBA0.out pl (Int.le_refl _) (by have := HBV.out; omega)).2] at HC1
          by_cases hz : sh = 0
          · have j8 : ¬ ((0 : Int) < (sh : Int)) := by omega
            clear hz
            go_wp2_with fail
            refine HC1.out.mono ?_; rintro _ wc ⟨rfl, hb⟩
            have HZc := Aside0.mk (bstep HZb.out hb)
            have HRc := Aside0.mk (Kd.R_below HRb.out hb)
            clear hb y0 y1 y2 hxe
            obtain ⟨y0, y1, y2⟩ := HX_4.out.below HZc.out
            have yO0 : ∀ p : Over wc, _ := Over.cell y0
            have yO1 : ∀ p : Over wc, _ := Over.cell y1
            have yO2 : ∀ p : Over wc, _ := Over.cell y2
            obtain ⟨adL, bk, rfl, hbk, x0, x1, x2, x3, x4, x5, x6, x7⟩ := at_bk (Kd.C_below HL_4.out HZc.out) i hlt
            obtain rfl : bk = b := by have h1 := hbk.out; rw [HBI.out] at h1; exact (Option.some.inj h1).symm
            have xO : ∀ p : Over wc, _ := Over.cell x5
            obtain ⟨b0, b1⟩ := HBV.out
            have t1 : IntKind.i64.wrap bk.wd = bk.wd := by rw [IntKind.wrap_i64]; omega
            have t1' : wrap64 bk.wd = bk.wd := by unfold wrap64; omega
            have t2 : IntKind.i64.wrap (pl + bk.wd) = pl + bk.wd := by rw [IntKind.wrap_i64]; omega
            have t3 : IntKind.i64.wrap (pl + bk.wd - 1) = pl + bk.wd - 1 := by rw [IntKind.wrap_i64]; omega
            have HC2 := Aside0.mk (fun W (h : Below w4.heap.size w4 W) => HBA.out (some adE) dE E (sh : Int) (pl + bk.wd - 1) W (Kd.C_below HC_4.out h) (Kd.C_below HL_4.out h) (Kd.C_below HE_4.out h))
            simp only [(HBA0.out (pl + bk.wd - 1) (by omega) (by omega)).1, (HBA0.out (pl + bk.wd - 1) (by omega) (by omega)).2] at HC2
            go_wp2_with fail
            refine region_over (by kernel_rfl) (by kernel_rfl) ?_
            repeat (go_big_quiet_step (first | (go_at_call 65; exact Calls.over_of (HC2.out _ (HZc.out.trans ((Over.h _).mono HZc.out.size))))))
            refine wpQuiet_nil ?_
            intro wd hw'
            have hq_wd := over_out hw'
            clear hw'
            have HZd := Aside0.mk (bstep HZc.out hq_wd)
            have HRd := Aside0.mk (Kd.R_below HRc.out hq_wd)
            clear hq_wd yO0 yO1 yO2 y0 y1 y2 xO x0 x1 x2 x3 x4 x5 x6 x7
            go_wp2_with (at_builtin; refine i64_append (w := w4) rfl (.tmp 175) (.tmp 177) rfl _ (shS E i) (sh : Int) rfl rfl HRd.out HZd.out (by omega) ?_; intro v1 w9 hR1 hB1 _; have HR9 := Aside0.mk hR1; have HB9 := Aside0.mk hB1; clear hR1 hB1)
            go_roundg (gk - 1)
            case measure => have := HK.out; omega
            case rel => exact ⟨i + 1, by have := HK.out; omega, by go_num, ⟨by rw [HSS.out]; exact HR9.out⟩, HB9⟩
          · have j8 : (0 : Int) < (sh : Int) := by omega
            obtain ⟨adE', e', he', hbe', hxe'⟩ := at_int' (Kd.C_below HE_4.out HZb.out) (sh - 1) (by omega)
            cases he'
            have j9 : ¬ ((i : Int) < e') := by have := HBEF.out e' hz hbe'.out; omega
            have j10 : ((sh : Int) - 1).toNat = sh - 1 := by omega
            have j11 : (0 : Int) ≤ (sh : Int) - 1 := by omega
            have j12 : (sh : Int) - 1 < (E.length : Int) := by omega
            have j13 : IntKind.i64.wrap ((sh : Int) - 1) = (sh : Int) - 1 := wrap_pred sh (by omega)
            clear hz
            go_wp2_with fail
            refine HC1.out.mono ?_; rintro _ wc ⟨rfl, hb⟩
            have HZc := Aside0.mk (bstep HZb.out hb)
            have HRc := Aside0.mk (Kd.R_below HRb.out hb)
            clear hb y0 y1 y2 hxe
            clear hxe'
            obtain ⟨y0, y1, y2⟩ := HX_4.out.below HZc.out
            have yO0 : ∀ p : Over wc, _ := Over.cell y0
            have yO1 : ∀ p : Over wc, _ := Over.cell y1
            have yO2 : ∀ p : Over wc, _ := Over.cell y2
            obtain ⟨adL, bk, rfl, hbk, x0, x1, x2, x3, x4, x5, x6, x7⟩ := at_bk (Kd.C_below HL_4.out HZc.out) i hlt
            obtain rfl : bk = b := by have h1 := hbk.out; rw [HBI.out] at h1; exact (Option.some.inj h1).symm
            have xO : ∀ p : Over wc, _ := Over.cell x5
            obtain ⟨b0, b1⟩ := HBV.out
            have t1 : IntKind.i64.wrap bk.wd = bk.wd := by rw [IntKind.wrap_i64]; omega
            have t1' : wrap64 bk.wd = bk.wd := by unfold wrap64; omega
            have t2 : IntKind.i64.wrap (pl + bk.wd) = pl + bk.wd := by rw [IntKind.wrap_i64]; omega
            have t3 : IntKind.i64.wrap (pl + bk.wd - 1) = pl + bk.wd - 1 := by rw [IntKind.wrap_i64]; omega
            have HC2 := Aside0.mk (fun W (h : Below w4.heap.size w4 W) => HBA.out (some adE) dE E (sh : Int) (pl + bk.wd - 1) W (Kd.C_below HC_4.out h) (Kd.C_below HL_4.out h) (Kd.C_below HE_4.out h))
            simp only [(HBA0.out (pl + bk.wd - 1) (by omega) (by omega)).1, (HBA0.out (pl + bk.wd - 1) (by omega) (by omega)).2] at HC2
            go_wp2_with fail
            refine region_over (by kernel_rfl) (by kernel_rfl) ?_
            repeat (go_big_quiet_step (first | (go_at_call 65; exact Calls.over_of (HC2.out _ (HZc.out.trans ((Over.h _).mono HZc.out.size))))))
            refine wpQuiet_nil ?_
            intro wd hw'
            have hq_wd := over_out hw'
            clear hw'
            have HZd := Aside0.mk (bstep HZc.out hq_wd)
            have HRd := Aside0.mk (Kd.R_below HRc.out hq_wd)
            clear hq_wd yO0 yO1 yO2 y0 y1 y2 xO x0 x1 x2 x3 x4 x5 x6 x7
            go_wp2_with (at_builtin; refine i64_append (w := w4) rfl (.tmp 175) (.tmp 177) rfl _ (shS E i) (sh : Int) rfl rfl HRd.out HZd.out (by omega) ?_; intro v1 w9 hR1 hB1 _; have HR9 := Aside0.mk hR1; have HB9 := Aside0.mk hB1; clear hR1 hB1)
            go_roundg (gk - 1)
            case measure => have := HK.out; omega
            case rel => exact ⟨i + 1, by have := HK.out; omega, by go_num, ⟨by rw [HSS.out]; exact HR9.out⟩, HB9⟩
        · have hil : i = L.length := by omega
          obtain ⟨w5, rfl⟩ : ∃ W : World, W = wr := ⟨_, rfl⟩
          have HX5 := Aside0.mk (HX_4.out.below HZ.out)
          have HC5 := Aside0.mk (Kd.C_below HC_4.out HZ.out)
          have HL5 := Aside0.mk (Kd.C_below HL_4.out HZ.out)
          have HE5 := Aside0.mk (Kd.C_below HE_4.out HZ.out)
          have HB5 := Aside0.mk (bstep HB_4.out HZ.out)
          rw [hil] at HR
          obtain ⟨A10, c10, rfl⟩ := Kd.R_slice HR.out
          have hsl := shS_len E L.length
          have HSH := Aside0.mk (Kd.R_reads' HR.out).2.2
          rw [hsl] at HSH ⊢
          have hl8' : L.length ≤ 8 := hl8
          have hni0 : ¬ ((i : Int) < (L.length : Int)) := by omega
          clear hk hil hsl hlt HR
          go_wp2_with fail
          obtain ⟨gz, rfl⟩ : ∃ g : Nat, g = gk := ⟨_, rfl⟩
          go_loopg [22] L.length (fun gk v22 wr => ∃ i : Nat, i + gk = L.length ∧ v22 = .int .i64 i ∧ Aside0 (Below w5.heap.size w5 wr))
          case atStart => exact ⟨0, by omega, rfl, ⟨Below.refl _ _⟩⟩
          case round =>
            obtain ⟨i, hk, rfl, HZ⟩ := hrel
            have HK := Aside0.mk hk
            by_cases hlt : i < L.length
            · obtain ⟨y0, y1, y2⟩ := HX5.out.below HZ.out
              obtain ⟨b, hbi⟩ : ∃ b, L[i]? = some b := ⟨_, List.getElem?_eq_getElem hlt⟩
              have HBI := Aside0.mk hbi
              obtain ⟨f, l, hf1, hl1, hc1, hp1, hf2, hl2, hf3, hl3⟩ := sc_at HY.out hbi
              have HP1 := Aside0.mk hp1
              have HGD := Aside0.mk (getD_bk hbi)
              have hbc := (HOL.out b (mem_of hbi)).1
              have HS1 := Aside0.mk (fun W (h : Below w5.heap.size w5 W) => HSC.out AE dE E b.c W (Kd.C_below HC5.out h) (Kd.C_below HL5.out h) (Kd.C_below HE5.out h))
              simp only [hf1, hl1, hc1] at HS1
              clear hf1 hl1 hc1 hp1 hbi
              obtain ⟨sh, hsh⟩ : ∃ s, shOf E (i : Int) = s := ⟨_, rfl⟩
              have HSHI := Aside0.mk (show (shS E L.length)[i]? = some ((sh : Nat) : Int) by rw [← hsh]; exact shS_at hlt)
              rw [hsh] at hf2 hl2
              have HSE := Aside0.mk hsh
              clear hsh
              obtain ⟨adL, bk, rfl, hbk, x0, x1, x2, x3, x4, x5, x6, x7⟩ := at_bk (Kd.C_below HL5.out HZ.out) i hlt
              obtain rfl : bk = b := by have h1 := hbk.out; rw [HBI.out] at h1; exact (Option.some.inj h1).symm
              unfold I16 at hbc
              have t1 : IntKind.i64.wrap bk.c = bk.c := by rw [IntKind.wrap_i64]; omega
              have t1' : wrap64 bk.c = bk.c := by unfold wrap64; omega
              have yO0 : ∀ p : Over wr, _ := Over.cell y0
              have yO1 : ∀ p : Over wr, _ := Over.cell y1
              have yO2 : ∀ p : Over wr, _ := Over.cell y2
              have xO : ∀ p : Over wr, _ := Over.cell x0
              have j5 : (i : Int) < (L.length : Int) := by omega
              have j6 : (0 : Int) ≤ (i : Int) := by omega
              clear hk
              go_wp2_with fail
              refine region_over (by kernel_rfl) (by kernel_rfl) ?_
              repeat (go_big_quiet_step (first | (go_at_call 71; exact Calls.over_of (HS1.out _ (HZ.out.trans ((Over.h _).mono HZ.out.size))))))
              refine wpQuiet_nil ?_
              intro wa hw'
              have hq_wa := over_out hw'
              clear hw'
              have HZa := Aside0.mk (bstep HZ.out hq_wa)
              clear hq_wa yO0 yO1 yO2 y0 y1 y2 xO x0 x1 x2 x3 x4 x5 x6 x7 HS1 t1 t1'
              obtain ⟨adS, sx, rfl, hbs, hxs⟩ := at_int' (Kd.C_below HSH.out HZa.out) i hlt
              obtain rfl : sx = (sh : Int) := by have h1 := hbs.out; rw [HSHI.out] at h1; exact (Option.some.inj h1).symm
              have k1 : ¬ ((sh : Int) < f) := by omega
              have k2 : ¬ (l < (sh : Int)) := by omega
              go_wp2_with fail
              clear hxs k1 k2
              obtain ⟨gi, rfl⟩ : ∃ g : Nat, g = gk := ⟨_, rfl⟩
              obtain ⟨wi, rfl⟩ : ∃ W : World, W = wa := ⟨_, rfl⟩
              go_loopg [26, 27, 28] L.length (fun gk v26 v27 v28 wr => ∃ m : Nat, ∃ lo hi : Int, m + gk = L.length ∧ v28 = .int .i64 m ∧ v26 = .int .i64 lo ∧ v27 = .int .i64 hi ∧ Aside0 (LoP L E bk.c (sh : Nat) m lo hi) ∧ Aside0 (Below w5.heap.size w5 wr))
              case atStart => exact ⟨0, _, _, by omega, rfl, rfl, rfl, ⟨LoP.start _ _ _ _⟩, HZa⟩
              case round =>
                clear HZa
                obtain ⟨m, lo, hi, hk, rfl, rfl, rfl, HLO, HZm⟩ := hrel
                have HKm := Aside0.mk hk
                by_cases hml : m < L.length
                · obtain ⟨adM, bm, e1, hbm, z0, z1, z2, z3, z4, z5, z6, z7⟩ := at_bk (Kd.C_below HL5.out HZm.out) m hml
                  cases e1
                  obtain ⟨adM, bi, e1, hbi2, q0, q1, q2, q3, q4, q5, q6, q7⟩ := at_bk (Kd.C_below HL5.out HZm.out) i hlt
                  cases e1
                  obtain rfl : bi = bk := by have h1 := hbi2.out; rw [HBI.out] at h1; exact (Option.some.inj h1).symm
                  have zO : ∀ p : Over wr, _ := Over.cell z0
                  have qO : ∀ p : Over wr, _ := Over.cell q0
                  have m5 : (m : Int) < (L.length : Int) := by omega
                  have m6 : (0 : Int) ≤ (m : Int) := by omega
                  have HGM := Aside0.mk (getD_bk hbm.out)
                  clear hk
                  by_cases hc : bm.c = bi.c
                  · have hb1 : (bm.c == bi.c) = true := by simp [hc]
                    have HST := Aside0.mk (HLO.out.step (by rw [HGM.out]; exact hc))
                    clear hc
                    go_wp2_with fail
                    refine region_over (by kernel_rfl) (by kernel_rfl) ?_
                    repeat (go_big_quiet_step (fail))
                    refine wpQuiet_nil ?_
                    intro wm hw'
                    have hq_wm := over_out hw'
                    clear hw'
                    have HZn := Aside0.mk (bstep HZm.out hq_wm)
                    clear hq_wm zO qO z0 z1 z2 z3 z4 z5 z6 z7 q0 q1 q2 q3 q4 q5 q6 q7
                    obtain ⟨adT, sm, e2, hbt, hxt⟩ := at_int' (Kd.C_below HSH.out HZn.out) m hml
                    cases e2
                    obtain rfl : sm = ((shOf E (m : Int) : Nat) : Int) := by have h1 := hbt.out; rw [shS_at hml] at h1; exact (Option.some.inj h1).symm
                    generalize ((shOf E (m : Int) : Nat) : Int) = sm at HST hxt
                    by_cases c1 : sm < lo
                    · rw [if_pos c1] at HST
                      by_cases c2 : hi < sm
                      · rw [if_pos c2] at HST
                        go_wp2
                        go_roundg (gk - 1)
                        case measure => have := HKm.out; omega
                        case rel => exact ⟨m + 1, sm, sm, by have := HKm.out; omega, by go_num, by first | rfl | (congr 1; omega), by first | rfl | (congr 1; omega), HST, HZn⟩
                      · rw [if_neg c2] at HST
                        go_wp2
                        go_roundg (gk - 1)
                        case measure => have := HKm.out; omega
                        case rel => exact ⟨m + 1, sm, hi, by have := HKm.out; omega, by go_num, by first | rfl | (congr 1; omega), by first | rfl | (congr 1; omega), HST, HZn⟩
                    · rw [if_neg c1] at HST
                      by_cases c2 : hi < sm
                      · rw [if_pos c2] at HST
                        go_wp2
                        go_roundg (gk - 1)
                        case measure => have := HKm.out; omega
                        case rel => exact ⟨m + 1, lo, sm, by have := HKm.out; omega, by go_num, by first | rfl | (congr 1; omega), by first | rfl | (congr 1; omega), HST, HZn⟩
                      · rw [if_neg c2] at HST
                        go_wp2
                        go_roundg (gk - 1)
                        case measure => have := HKm.out; omega
                        case rel => exact ⟨m + 1, lo, hi, by have := HKm.out; omega, by go_num, by first | rfl | (congr 1; omega), by first | rfl | (congr 1; omega), HST, HZn⟩
                  · have hb1 : (bm.c == bi.c) = false := by simpa using hc
                    have HST := Aside0.mk (HLO.out.skip (by rw [HGM.out]; exact hc))
                    clear hc
                    go_wp2_with fail
                    refine region_over (by kernel_rfl) (by kernel_rfl) ?_
                    repeat (go_big_quiet_step (fail))
                    refine wpQuiet_nil ?_
                    intro wm hw'
                    have hq_wm := over_out hw'
                    clear hw'
                    have HZn := Aside0.mk (bstep HZm.out hq_wm)
                    clear hq_wm zO qO z0 z1 z2 z3 z4 z5 z6 z7 q0 q1 q2 q3 q4 q5 q6 q7
                    go_wp2
                    go_roundg (gk - 1)
                    case measure => have := HKm.out; omega
                    case rel => exact ⟨m + 1, lo, hi, by have := HKm.out; omega, by go_num, by first | rfl | (congr 1; omega), by first | rfl | (congr 1; omega), HST, HZn⟩
                · have hmn : m = L.length := by omega
                  have hd := LoP.done (lo := lo) (hi := hi) hlt (by rw [HGD.out]) (by rw [HSE.out, ← hmn]; exact HLO.out)
                  have hfe : f = lo ∧ l = hi := by have h1 := hd.1; rw [HP1.out] at h1; exact ⟨congrArg Prod.fst h1, congrArg Prod.snd h1⟩
                  obtain ⟨rfl, rfl⟩ := hfe
                  have hnm : ¬ ((m : Int) < (L.length : Int)) := by omega
                  clear hmn hk hd hml
                  go_wp2
                  go_roundg (gi - 1)
                  case measure => have := HK.out; omega
                  case rel => exact ⟨i + 1, by have := HK.out; omega, by go_num, HZm⟩
            · have hni : ¬ ((i : Int) < (L.length : Int)) := by omega
              obtain ⟨E3, s6, hE3, hs6, hE6⟩ : ∃ E s, fsV k L = E ∧ fsE k L = s ∧ (s = 6 ∨ (s = 0 ∧ LayP k L E)) := by
                by_cases hfl : flAt k L k.hs.length < L.length
                · exact ⟨_, _, rfl, rfl, .inl (fs_over HE0.out hfl).2⟩
                · refine ⟨_, _, rfl, rfl, .inr ⟨(fs_ok HE0.out hfl).2, ?_⟩⟩
                  rw [(fs_ok HE0.out hfl).1]
                  exact fl_lay HV.out HVB.out hfl
              rw [hE3, hs6] at HFL
              have HE6 := Aside0.mk hE6
              clear hE3 hs6 hE6 hk hlt
              obtain ⟨y0, y1, y2⟩ := HX5.out.below HZ.out
              go_wp2_with fail
              refine (HFL.out _ (Kd.C_below HC5.out HZ.out) (Kd.C_below HL5.out HZ.out)).mono ?_; rintro _ w6 ⟨_, rfl, hb, vfi, rfl, hvv⟩
              obtain ⟨Afi, dfi, rfl, lfi⟩ : ∃ A d, vfi = .slice A E3.length d ∧ E3.length ≤ d := by obtain ⟨A, d, e1, e2, _⟩ := Kd.R_reads hvv; exact ⟨A, d, e1, e2⟩
              have HF6 := Aside0.mk (show (Kd.int .i64).C w6 Afi E3.length E3 from (Kd.R_reads' hvv).2.2)
              have HZ6 := Aside0.mk (bstep HZ.out hb)
              clear hb hvv y0 y1 y2
              go_wp2_with fail
              have HM1 := Aside0.mk (MovedBooks_c AE AE dE dE E E w6 (Kd.C_below HE5.out HZ6.out) (Kd.C_below HE5.out HZ6.out))
              rw [(mv_lay HY.out HY.out).1, (mv_lay HY.out HY.out).2, mv_same] at HM1
              refine HM1.out.mono ?_; rintro _ w7 ⟨rfl, hb⟩
              have HZ7 := Aside0.mk (bstep HZ6.out hb)
              have HF7 := Aside0.mk (Kd.C_below HF6.out hb)
              clear hb HM1
              rcases HE6.out with rfl | ⟨rfl, hL3⟩
              · go_wp2_with fail
                go_ret
                exact ⟨rfl, HB5.out.trans (HZ7.out.mono HB5.out.size)⟩
              · have HY3 := Aside0.mk hL3
                clear hL3
                go_wp2_with fail
                have HM2 := Aside0.mk (MovedBooks_c AE Afi dE dfi E E3 w7 (Kd.C_below HE5.out HZ7.out) HF7.out)
                rw [(mv_lay HY.out HY3.out).1, (mv_lay HY.out HY3.out).2, mv_comm] at HM2
                refine HM2.out.mono ?_; rintro _ w8 ⟨rfl, hb⟩
                have HZ8 := Aside0.mk (bstep HZ7.out hb)
                have HF8 := Aside0.mk (Kd.C_below HF7.out hb)
                clear hb HM2
                go_wp2_with fail
                have HM3 := Aside0.mk (MovedBooks_c Afi AE dfi dE E3 E w8 HF8.out (Kd.C_below HE5.out HZ8.out))
                rw [(mv_lay HY3.out HY.out).1, (mv_lay HY3.out HY.out).2] at HM3
                refine HM3.out.mono ?_; rintro _ w9 ⟨rfl, hb⟩
                have HZ9 := Aside0.mk (bstep HZ8.out hb)
                have HF9 := Aside0.mk (Kd.C_below HF8.out hb)
                clear hb HM3
                go_wp2_with fail
                obtain ⟨gy, rfl⟩ : ∃ g : Nat, g = gk := ⟨_, rfl⟩
                go_loopg [37, 38] L.length (fun gk v37 v38 wr => ∃ j : Nat, j + gk = L.length ∧ v38 = .int .i64 j ∧ v37 = .int .i64 (mvCnt E3 E j : Nat) ∧ Aside0 (Below w9.heap.size w9 wr))
                case atStart => exact ⟨0, by omega, rfl, rfl, ⟨Below.refl _ _⟩⟩
                case round =>
                  obtain ⟨j, hk, rfl, rfl, HQ⟩ := hrel
                  have HKj := Aside0.mk hk
                  have HZj := Aside0.mk (bstep HZ9.out HQ.out)
                  by_cases hjl : j < L.length
                  · obtain ⟨y0, y1, y2⟩ := HX5.out.below HZj.out
                    obtain ⟨hw1, hw2, hw3⟩ := wh_at HY3.out hjl
                    have HW := Aside0.mk (HWS.out Afi dfi E3 (j : Int) wr (Kd.C_below HC5.out HZj.out) (Kd.C_below HL5.out HZj.out) (Kd.C_below HF9.out HQ.out))
                    rw [hw1, hw2, hw3] at HW
                    clear hw1 hw2 hw3
                    have HMS := Aside0.mk (mv_step E3 E j)
                    have hmc := mvCnt_le E3 E j
                    have hwj : IntKind.i64.wrap ((mvCnt E3 E j : Int) + 1) = (mvCnt E3 E j : Int) + 1 := wrap_suc _ (by omega)
                    have m5 : (j : Int) < (L.length : Int) := by omega
                    have m6 : (0 : Int) ≤ (j : Int) := by omega
                    clear hk
                    go_wp2_with fail
                    refine HW.out.mono ?_; rintro _ wa ⟨rfl, hb⟩
                    have HQa := Aside0.mk (bstep HQ.out hb)
                    have HZa := Aside0.mk (bstep HZj.out hb)
                    clear hb y0 y1 y2 HW
                    obtain ⟨adT, sm, e2, hbt, hxt⟩ := at_int' (Kd.C_below HSH.out HZa.out) j hjl
                    cases e2
                    obtain rfl : sm = ((shOf E (j : Int) : Nat) : Int) := by have h1 := hbt.out; rw [shS_at hjl] at h1; exact (Option.some.inj h1).symm
                    by_cases hs : shOf E3 (j : Int) = shOf E (j : Int)
                    · rw [if_pos hs] at HMS
                      have hb1 : (((shOf E3 (j : Int) : Nat) : Int) != ((shOf E (j : Int) : Nat) : Int)) = false := by simp [hs]
                      clear hs
                      go_wp2
                      go_roundg (gk - 1)
                      case measure => have := HKj.out; omega
                      case rel => exact ⟨j + 1, by have := HKj.out; omega, by go_num, by rw [HMS.out]; rfl, HQa⟩
                    · rw [if_neg hs] at HMS
                      have hb1 : (((shOf E3 (j : Int) : Nat) : Int) != ((shOf E (j : Int) : Nat) : Int)) = true := by simp; omega
                      clear hs
                      go_wp2
                      go_roundg (gk - 1)
                      case measure => have := HKj.out; omega
                      case rel => exact ⟨j + 1, by have := HKj.out; omega, by go_num, by rw [HMS.out]; congr 1, HQa⟩
                  · have hjn : j = L.length := by omega
                    have hnj : ¬ ((j : Int) < (L.length : Int)) := by omega
                    have hqq : ((mvCnt E3 E L.length : Nat) : Int) = ((mvCnt E3 E j : Nat) : Int) := by rw [hjn]
                    have hbq : (((mvCnt E3 E L.length : Nat) : Int) == ((mvCnt E3 E j : Nat) : Int)) = true := by rw [hjn]; simp
                    clear hjn hk hjl hqq
                    go_wp2_with fail
                    go_ret
                    exact ⟨by simp, HB5.out.trans (HZj.out.mono HB5.out.size)⟩
end Go.Proofs.Ytdippdkneeocfaa
