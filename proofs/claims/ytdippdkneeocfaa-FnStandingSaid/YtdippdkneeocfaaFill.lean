/- FillShelves: the program's and the reference's. -/
import Derived.Test.YtdippdkneeocfaaBadS
import Derived.Test.YtdippdkneeocfaaRow
import Derived.StillTailTactics
import Derived.Still
import Derived.Deep.QuietTactic
import Derived.BigQuiet
namespace Go.Proofs.Ytdippdkneeocfaa
open Go.RowKit Go.Proofs.YtdippdkneeocfaaW.PrintWords Go.Proofs.YtdippdkneeocfaaW.PrintMore
set_option linter.unusedVariables false
set_option linter.unusedSimpArgs false
set_option maxRecDepth 100000

/-- Where a shelf ends that is filled from a on: g more books may come, t is reached. -/
def flEnd (k : Cs) (s : Nat) (L : List Bk) (a : Nat) : Nat → Nat → Nat
  | 0, t => t
  | g + 1, t => if t < L.length ∧ fitL k s (subL L a ((t : Int) + 1)) = true then flEnd k s L a g (t + 1) else t
theorem flEnd_le (k : Cs) (s : Nat) (L : List Bk) (a : Nat) : ∀ g t, t ≤ flEnd k s L a g t ∧ (t ≤ L.length → flEnd k s L a g t ≤ L.length)
  | 0, t => ⟨Nat.le_refl _, fun h => h⟩
  | g + 1, t => by
    rw [flEnd]
    split
    · rename_i h
      have := flEnd_le k s L a g (t + 1)
      exact ⟨by omega, fun _ => this.2 (by omega)⟩
    · exact ⟨Nat.le_refl _, fun h => h⟩
def flAt (k : Cs) (L : List Bk) : Nat → Nat
  | 0 => 0
  | s + 1 => flEnd k s L (flAt k L s) (L.length - flAt k L s) (flAt k L s)
theorem flAt_le (k : Cs) (L : List Bk) (s : Nat) : flAt k L s ≤ L.length := by
  induction s with
  | zero => exact Nat.zero_le _
  | succ s ih => exact (flEnd_le _ _ _ _ _ _).2 ih
def flEnds (k : Cs) (L : List Bk) (n : Nat) : List Int := (List.range n).map (fun s => (flAt k L (s + 1) : Int))
theorem flEnds_succ (k : Cs) (L : List Bk) (n : Nat) : flEnds k L (n + 1) = flEnds k L n ++ [(flAt k L (n + 1) : Int)] := by unfold flEnds; rw [List.range_succ, List.map_append]; rfl
theorem flEnds_len (k : Cs) (L : List Bk) (n : Nat) : (flEnds k L n).length = n := by unfold flEnds; rw [List.length_map, List.length_range]
theorem flEnd_go {k : Cs} {s : Nat} {L : List Bk} {a g t : Nat} (hg : 0 < g) (ht : t < L.length) (h : fitL k s (subL L a ((t : Int) + 1)) = true) : flEnd k s L a g t = flEnd k s L a (g - 1) (t + 1) := by
  match g, hg with
  | g + 1, _ => rw [flEnd, if_pos ⟨ht, h⟩]; rfl
theorem flEnd_stop {k : Cs} {s : Nat} {L : List Bk} {a g t : Nat} (h : ¬ (t < L.length ∧ fitL k s (subL L a ((t : Int) + 1)) = true)) : flEnd k s L a g t = t := by
  cases g with
  | zero => rfl
  | succ g => rw [flEnd, if_neg h]
def fsE (k : Cs) (L : List Bk) : Int := if eCL k L = 0 then (if flAt k L k.hs.length < L.length then 6 else 0) else eCL k L
def fsV (k : Cs) (L : List Bk) : List Int := if fsE k L = 0 then flEnds k L k.hs.length else []
theorem fs_bad {k : Cs} {L : List Bk} (h : eCL k L = 1) : fsV k L = [] ∧ fsE k L = 1 := by
  have h1 : fsE k L = 1 := by unfold fsE; rw [h]; rfl
  exact ⟨by unfold fsV; rw [h1]; rfl, h1⟩
theorem fs_over {k : Cs} {L : List Bk} (h : eCL k L = 0) (h2 : flAt k L k.hs.length < L.length) : fsV k L = [] ∧ fsE k L = 6 := by
  have h1 : fsE k L = 6 := by unfold fsE; rw [if_pos h, if_pos h2]
  exact ⟨by unfold fsV; rw [h1]; rfl, h1⟩
theorem fs_ok {k : Cs} {L : List Bk} (h : eCL k L = 0) (h2 : ¬ flAt k L k.hs.length < L.length) : fsV k L = flEnds k L k.hs.length ∧ fsE k L = 0 := by
  have h1 : fsE k L = 0 := by unfold fsE; rw [if_pos h, if_neg h2]
  exact ⟨by unfold fsV; rw [if_pos h1], h1⟩
theorem fsV_len (k : Cs) (L : List Bk) : (fsV k L).length ≤ k.hs.length := by
  unfold fsV
  split
  · rw [flEnds_len]; exact Nat.le_refl _
  · exact Nat.zero_le _
set_option maxHeartbeats 4000000 in
theorem FillShelves_c (k : Cs) (A : Option Addr) (c : Nat) (A1 : Option Addr) (c1 : Nat) (L : List Bk) (hok : k.ok) (hoL : OkL L) (hc1 : L.length ≤ c1) (w : World) (hC : (Kd.int .i16).C w A k.hs.length k.hs) (hL : kBk.C w A1 L.length L) :
    Calls Try.prog 60 #[k.val A c, .slice A1 L.length c1] w (RetQ w (TupI w (fsV k L) (fsE k L))) := by
  have hm := Kd.C_max hC
  have hm1 := Kd.C_max hL
  have HC := Aside0.mk hC
  have HL := Aside0.mk hL
  have HVC := Aside0.mk (fun W h => ValidCase_c k A c W h)
  have HVB := Aside0.mk (fun W h => ValidBooks_c A1 c1 L W h)
  have HB := Aside0.mk (balloc (Below.refl w.heap.size w) (.cells #[.int .i16 k.wd, .int .i32 k.ld, .slice A k.hs.length c] 51))
  have HX := Aside0.mk (CsAt.box w k A c 51)
  clear hC hL
  simp only [Cs.val] at HVC ⊢
  cases v1 : vCase k
  · rw [v1] at HVC
    have HE := Aside0.mk (fs_bad (eCL_1 (L := L) v1))
    clear v1
    obtain ⟨y0, y1, y2⟩ := HX.out
    go_enter Try.func60, Try.ntmps60
    go_wp2_with fail
    refine (HVC.out _ (Kd.C_alloc HC.out _)).mono ?_; rintro _ w1 ⟨rfl, hb1⟩
    have HB1 := Aside0.mk (bstep HB.out hb1)
    have HX1 := Aside0.mk (HX.out.below hb1)
    clear hb1 y0 y1 y2
    obtain ⟨y0, y1, y2⟩ := HX1.out
    go_wp2_with fail
    go_ret2
    rw [HE.out.1, HE.out.2]
    exact ⟨_, rfl, HB1.out, _, rfl, Kd.R_nil _ _ _ _ _⟩
  · rw [v1] at HVC
    cases v2 : vBooks L
    · rw [v2] at HVB
      have HE := Aside0.mk (fs_bad (eCL_2 (k := k) v2))
      clear v1 v2
      obtain ⟨y0, y1, y2⟩ := HX.out
      go_enter Try.func60, Try.ntmps60
      go_wp2_with fail
      refine (HVC.out _ (Kd.C_alloc HC.out _)).mono ?_; rintro _ w1 ⟨rfl, hb1⟩
      have HB1 := Aside0.mk (bstep HB.out hb1)
      have HX1 := Aside0.mk (HX.out.below hb1)
      clear hb1 y0 y1 y2
      obtain ⟨y0, y1, y2⟩ := HX1.out
      go_wp2_with fail
      refine (HVB.out _ (Kd.C_below HL.out HB1.out)).mono ?_; rintro _ w2 ⟨rfl, hb2⟩
      have HB2 := Aside0.mk (bstep HB1.out hb2)
      have HX2 := Aside0.mk (HX1.out.below hb2)
      clear hb2 y0 y1 y2
      obtain ⟨y0, y1, y2⟩ := HX2.out
      go_wp2_with fail
      go_ret2
      rw [HE.out.1, HE.out.2]
      exact ⟨_, rfl, HB2.out, _, rfl, Kd.R_nil _ _ _ _ _⟩
    · rw [v2] at HVB
      have HV0 := Aside0.mk (eCL_0 v1 v2)
      have HFO := Aside0.mk (FitOk.of v2)
      have HVK := Aside0.mk (vCase_bd v1)
      clear v1 v2
      have HOK := Aside0.mk hok
      have HOL := Aside0.mk hoL
      clear hok hoL
      have hl60 := HFO.out.len
      have hn12 := HVK.out.n.2
      obtain ⟨y0, y1, y2⟩ := HX.out
      go_enter Try.func60, Try.ntmps60
      go_wp2_with fail
      refine (HVC.out _ (Kd.C_alloc HC.out _)).mono ?_; rintro _ w1 ⟨rfl, hb1⟩
      have HB1 := Aside0.mk (bstep HB.out hb1)
      have HX1 := Aside0.mk (HX.out.below hb1)
      clear hb1 y0 y1 y2
      obtain ⟨y0, y1, y2⟩ := HX1.out
      go_wp2_with fail
      refine (HVB.out _ (Kd.C_below HL.out HB1.out)).mono ?_; rintro _ w2 ⟨rfl, hb2⟩
      have HB2 := Aside0.mk (bstep HB1.out hb2)
      have HX2 := Aside0.mk (HX1.out.below hb2)
      clear hb2 y0 y1 y2
      obtain ⟨y0, y1, y2⟩ := HX2.out
      go_wp2_with fail
      clear y0 y1 y2
      go_loopg [6, 7, 21] k.hs.length (fun gk v6 v7 v21 wr => ∃ s : Nat, s + gk = k.hs.length ∧ v21 = .int .i64 s ∧ v7 = .int .i64 (flAt k L s : Nat) ∧ Aside0 ((Kd.int .i64).R 2 wr w2.heap.size (fun _ => True) v6 (flEnds k L s)) ∧ Aside0 (Below w2.heap.size w2 wr))
      case atStart => exact ⟨0, by omega, rfl, rfl, ⟨Kd.R_nil _ _ _ _ _⟩, ⟨Below.refl _ _⟩⟩
      case round =>
        obtain ⟨s, hk, rfl, rfl, HR, hb⟩ := hrel
        have HK := Aside0.mk hk
        have hat := flAt_le k L s
        by_cases hlt : s < k.hs.length
        · have HXo := Aside0.mk (HX2.out.below hb.out)
          have HBo := Aside0.mk (HB2.out.trans (hb.out.mono HB2.out.size))
          have HAT := Aside0.mk (show flAt k L (s + 1) = flEnd k s L (flAt k L s) (L.length - flAt k L s) (flAt k L s) from rfl)
          have HENDS := Aside0.mk (flEnds_succ k L s)
          have hlen := flEnds_len k L s
          obtain ⟨a, ha⟩ : ∃ a, flAt k L s = a := ⟨_, rfl⟩
          rw [ha] at HAT hat ⊢
          clear ha hk
          obtain ⟨gO, rfl⟩ : ∃ g : Nat, g = gk := ⟨_, rfl⟩
          obtain ⟨wo, rfl⟩ : ∃ W : World, W = wr := ⟨_, rfl⟩
          have i0 : (0 : Int) ≤ (s : Int) := by omega
          go_wp2_with fail
          go_loopg [7] (L.length - a) (fun gk v7 wr => ∃ t : Nat, t + gk = L.length ∧ v7 = .int .i64 t ∧ Aside0 (flAt k L (s + 1) = flEnd k s L a gk t ∧ a ≤ t) ∧ Aside0 (Below wo.heap.size wo wr))
          case atStart => exact ⟨a, by omega, rfl, ⟨HAT.out, Nat.le_refl _⟩, ⟨Below.refl _ _⟩⟩
          case round =>
            obtain ⟨t, hk, rfl, hp, hbi⟩ := hrel
            have HKi := Aside0.mk hk
            have HXr := Aside0.mk (HXo.out.below hbi.out)
            have HBr := Aside0.mk (HBo.out.trans (hbi.out.mono HBo.out.size))
            obtain ⟨y0, y1, y2⟩ := HXr.out
            have yO0 : ∀ p : Over wr, p.W.cell? ⟨w.heap.size, 0, none⟩ = some (.int .i16 k.wd) := Over.cell y0
            have yO1 : ∀ p : Over wr, p.W.cell? ⟨w.heap.size, 1, none⟩ = some (.int .i32 k.ld) := Over.cell y1
            have yO2 : ∀ p : Over wr, p.W.cell? ⟨w.heap.size, 2, none⟩ = some (.slice A k.hs.length c) := Over.cell y2
            have hat2 := hp.out.2
            by_cases htl : t < L.length
            · obtain ⟨A', c', hcut, hc', hCC⟩ := cut_bk A1 c1 L a ((t : Int) + 1) (by omega) (by omega) (by omega) hc1
              have HCC := Aside0.mk hCC
              have HF := Aside0.mk (fun W h1 h2 => fits_c k A c s A' c' (subL L a ((t : Int) + 1)) HOK.out (fun b hb => HOL.out b ((subL_sub L _ _).subset hb)) hlt W h1 h2)
              have hg0 : 0 < gk := by omega
              have HY := Aside0.mk (fun h => flEnd_go (k := k) (s := s) (L := L) (a := a) (g := gk) hg0 htl h)
              have HN := Aside0.mk (fun (h : fitL k s (subL L a ((t : Int) + 1)) = false) => flEnd_stop (k := k) (s := s) (L := L) (a := a) (g := gk) (t := t) (by rintro ⟨_, h2⟩; rw [h] at h2; cases h2))
              simp only [Cs.val] at HF
              generalize fitL k s (subL L a ((t : Int) + 1)) = ft at HF HY HN
              generalize subL L a ((t : Int) + 1) = M at HF hcut hc' HCC hCC
              have dt : decide ((t : Int) < (L.length : Int)) = true := decide_eq_true (by omega)
              have dt' : decide (t < L.length) = true := decide_eq_true htl
              have i1 : (t : Int) < (L.length : Int) := by omega
              clear hCC hk
              cases ft
              · have HEND := Aside0.mk (show flAt k L (s + 1) = t by rw [hp.out.1]; exact HN.out rfl)
                clear HY HN
                go_wp2_with fail
                refine region_over (by kernel_rfl) (by kernel_rfl) ?_
                repeat (go_big_quiet_step (first | (go_at_call 130; exact Calls.over_of (HF.out _ (Kd.C_below HC.out (HBr.out.trans ((Over.h _).mono HBr.out.size))) (HCC.out _ (Kd.C_below HL.out (HBr.out.trans ((Over.h _).mono HBr.out.size))))))))
                refine wpQuiet_nil ?_
                intro wq1 hw'
                have hq_wq1 := over_out hw'
                clear hw'
                have HQ := Aside0.mk (bstep hbi.out hq_wq1)
                clear yO0 yO1 yO2 hcut y0 y1 y2 hq_wq1
                have HR1 := Aside0.mk (Kd.R_below HR.out HQ.out)
                have HB1' := Aside0.mk (bstep hb.out HQ.out)
                go_wp2_with (at_builtin; refine i64_append (w := w2) rfl (.tmp 41) (.tmp 43) rfl _ (flEnds k L s) (t : Int) rfl rfl HR1.out HB1'.out (by omega) ?_; intro v1 w9 hR1 hB1 _; have HR9 := Aside0.mk hR1; have HB9 := Aside0.mk hB1; clear hR1 hB1)
                go_roundg (gO - 1)
                case measure => have := HK.out; omega
                case rel => exact ⟨s + 1, by have := HK.out; omega, by go_num, by rw [HEND.out], ⟨by rw [HENDS.out, HEND.out]; exact HR9.out⟩, HB9⟩
              · have HGO := Aside0.mk (show flAt k L (s + 1) = flEnd k s L a (gk - 1) (t + 1) by rw [hp.out.1]; exact HY.out rfl)
                clear HY HN
                go_wp2_with fail
                refine region_over (by kernel_rfl) (by kernel_rfl) ?_
                repeat (go_big_quiet_step (first | (go_at_call 130; exact Calls.over_of (HF.out _ (Kd.C_below HC.out (HBr.out.trans ((Over.h _).mono HBr.out.size))) (HCC.out _ (Kd.C_below HL.out (HBr.out.trans ((Over.h _).mono HBr.out.size))))))))
                refine wpQuiet_nil ?_
                intro wq1 hw'
                have hq_wq1 := over_out hw'
                clear hw'
                have HQ := Aside0.mk (bstep hbi.out hq_wq1)
                clear yO0 yO1 yO2 hcut y0 y1 y2 hq_wq1
                go_wp2
                go_roundg (gk - 1)
                case measure => have := HKi.out; omega
                case rel => exact ⟨t + 1, by have := HKi.out; omega, by go_num, ⟨HGO.out, by omega⟩, HQ⟩
            · have HEND := Aside0.mk (show flAt k L (s + 1) = t by rw [hp.out.1]; exact flEnd_stop (fun h => htl h.1))
              have dt : decide ((t : Int) < (L.length : Int)) = false := decide_eq_false (by omega)
              have dt' : decide (t < L.length) = false := decide_eq_false htl
              have t60 : t ≤ 60 := by omega
              clear hk
              go_wp2_with fail
              refine region_over (by kernel_rfl) (by kernel_rfl) ?_
              repeat (go_big_quiet_step (fail))
              refine wpQuiet_nil ?_
              intro wq1 hw'
              have hq_wq1 := over_out hw'
              clear hw'
              have HQ := Aside0.mk (bstep hbi.out hq_wq1)
              clear yO0 yO1 yO2 y0 y1 y2 hq_wq1
              have HR1 := Aside0.mk (Kd.R_below HR.out HQ.out)
              have HB1' := Aside0.mk (bstep hb.out HQ.out)
              go_wp2_with (at_builtin; refine i64_append (w := w2) rfl (.tmp 41) (.tmp 43) rfl _ (flEnds k L s) (t : Int) rfl rfl HR1.out HB1'.out (by omega) ?_; intro v1 w9 hR1 hB1 _; have HR9 := Aside0.mk hR1; have HB9 := Aside0.mk hB1; clear hR1 hB1)
              go_roundg (gO - 1)
              case measure => have := HK.out; omega
              case rel => exact ⟨s + 1, by have := HK.out; omega, by go_num, by rw [HEND.out], ⟨by rw [HENDS.out, HEND.out]; exact HR9.out⟩, HB9⟩
        · have hs : s = k.hs.length := by omega
          have HBr := Aside0.mk (HB2.out.trans (hb.out.mono HB2.out.size))
          have HR2 := Aside0.mk (Kd.R_lower HR.out HB2.out.size)
          rw [hs] at HR2
          have HAT2 := Aside0.mk (show flAt k L k.hs.length = flAt k L s by rw [hs])
          generalize flAt k L s = a at hat HAT2 ⊢
          clear hk hs
          by_cases hal : a < L.length
          · have HE := Aside0.mk (fs_over HV0.out (by rw [HAT2.out]; exact hal))
            go_wp2
            go_ret2
            rw [HE.out.1, HE.out.2]
            exact ⟨_, rfl, HBr.out, _, rfl, Kd.R_nil _ _ _ _ _⟩
          · have HE := Aside0.mk (fs_ok HV0.out (by rw [HAT2.out]; exact hal))
            go_wp2
            go_ret2
            rw [HE.out.1, HE.out.2]
            exact ⟨_, rfl, HBr.out, _, rfl, HR2.out⟩
set_option maxHeartbeats 4000000 in
theorem specFillShelves_c (k : Cs) (A : Option Addr) (c : Nat) (A1 : Option Addr) (c1 : Nat) (L : List Bk) (hok : k.ok) (hoL : OkL L) (hc1 : L.length ≤ c1) (w : World) (hC : (Kd.int .i16).C w A k.hs.length k.hs) (hL : kBk.C w A1 L.length L) :
    Calls Try.prog 59 #[k.val A c, .slice A1 L.length c1] w (RetQ w (TupI w (fsV k L) (fsE k L))) := by
  have hm := Kd.C_max hC
  have hm1 := Kd.C_max hL
  have HA := Aside0.mk (box_asked k A c A1 c1 L hok hoL w hC hL)
  have HC := Aside0.mk hC
  have HL := Aside0.mk hL
  have HB := Aside0.mk (balloc (Below.refl w.heap.size w) (.cells #[.int .i16 k.wd, .int .i32 k.ld, .slice A k.hs.length c] 51))
  have HX := Aside0.mk (CsAt.box w k A c 51)
  clear hC hL
  simp only [Cs.val]
  rcases eCL_split k L with ⟨hv, v1, v2⟩ | hv
  · have HV0 := Aside0.mk hv
    have HFO := Aside0.mk (FitOk.of v2)
    have HVK := Aside0.mk (vCase_bd v1)
    have HOK := Aside0.mk hok
    rw [hv] at HA
    clear hv v1 v2 hok hoL
    have hl60 := HFO.out.len
    have hn12 := HVK.out.n.2
    go_enter Try.func59, Try.ntmps59
    go_wp2_with fail
    refine HA.out.mono ?_; rintro _ w1 ⟨rfl, hb1⟩
    have HB1 := Aside0.mk (bstep HB.out hb1)
    have HX1 := Aside0.mk (HX.out.below hb1)
    clear hb1
    go_wp2_with fail
    have HR0 := Aside0.mk (R_zero (Kd.int .i64) 2 w1 w1.heap.size (fun _ => True) (Nat.le_refl _) trivial)
    have HBZ := Aside0.mk (balloc (Below.refl w1.heap.size w1) (.cells #[] 2))
    go_loopg [7, 8, 9] k.hs.length (fun gk v6 v7 v21 wr => ∃ s : Nat, s + gk = k.hs.length ∧ v21 = .int .i64 s ∧ v7 = .int .i64 (flAt k L s : Nat) ∧ Aside0 ((Kd.int .i64).R 2 wr w1.heap.size (fun _ => True) v6 (flEnds k L s)) ∧ Aside0 (Below w1.heap.size w1 wr))
    case atStart => exact ⟨0, by omega, rfl, rfl, HR0, HBZ⟩
    case round =>
      clear HR0 HBZ
      obtain ⟨s, hk, rfl, rfl, HR, hb⟩ := hrel
      have HK := Aside0.mk hk
      have hat := flAt_le k L s
      have HXo := Aside0.mk (HX1.out.below hb.out)
      obtain ⟨y0, y1, y2⟩ := HXo.out
      by_cases hlt : s < k.hs.length
      · have HBo := Aside0.mk (HB1.out.trans (hb.out.mono HB1.out.size))
        have HAT := Aside0.mk (show flAt k L (s + 1) = flEnd k s L (flAt k L s) (L.length - flAt k L s) (flAt k L s) from rfl)
        have HENDS := Aside0.mk (flEnds_succ k L s)
        have hlen := flEnds_len k L s
        obtain ⟨a, ha⟩ : ∃ a, flAt k L s = a := ⟨_, rfl⟩
        rw [ha] at HAT hat ⊢
        clear ha hk
        obtain ⟨gO, rfl⟩ : ∃ g : Nat, g = gk := ⟨_, rfl⟩
        obtain ⟨wo, rfl⟩ : ∃ W : World, W = wr := ⟨_, rfl⟩
        have i0 : (0 : Int) ≤ (s : Int) := by omega
        go_wp2_with fail
        clear y0 y1 y2
        go_loopg [10] (L.length - a) (fun gk v7 wr => ∃ t : Nat, t + gk = L.length ∧ v7 = .int .i64 t ∧ Aside0 (flAt k L (s + 1) = flEnd k s L a gk t ∧ a ≤ t) ∧ Aside0 (Below wo.heap.size wo wr))
        case atStart => exact ⟨a, by omega, rfl, ⟨HAT.out, Nat.le_refl _⟩, ⟨Below.refl _ _⟩⟩
        case round =>
          obtain ⟨t, hk, rfl, hp, hbi⟩ := hrel
          have HKi := Aside0.mk hk
          have HXr := Aside0.mk (HXo.out.below hbi.out)
          have HBr := Aside0.mk (HBo.out.trans (hbi.out.mono HBo.out.size))
          have hat2 := hp.out.2
          by_cases htl : t < L.length
          · obtain ⟨A', c', hcut, hc', hCC⟩ := cut_bk A1 c1 L a ((t : Int) + 1) (by omega) (by omega) (by omega) hc1
            have HF := Aside0.mk (l02Free_c k A c s _ A' c' (subL L a ((t : Int) + 1)) HOK.out (HFO.out.sub (subL_sub L _ _)) hlt (HVK.out.h s) wr HXr.out (Kd.C_below HC.out HBr.out) (hCC _ (Kd.C_below HL.out HBr.out)))
            have hg0 : 0 < gk := by omega
            have HY := Aside0.mk (fun h => flEnd_go (k := k) (s := s) (L := L) (a := a) (g := gk) hg0 htl h)
            have HN := Aside0.mk (fun (h : fitL k s (subL L a ((t : Int) + 1)) = false) => flEnd_stop (k := k) (s := s) (L := L) (a := a) (g := gk) (t := t) (by rintro ⟨_, h2⟩; rw [h] at h2; cases h2))
            rw [← free_iff] at HY HN
            generalize freeL k s (subL L a ((t : Int) + 1)) = ft at HF HY HN
            generalize subL L a ((t : Int) + 1) = M at HF hcut hc' hCC
            have i1 : (t : Int) < (L.length : Int) := by omega
            clear hCC hk
            by_cases hft : ft < 0
            · have HEND := Aside0.mk (show flAt k L (s + 1) = t by rw [hp.out.1]; exact HN.out (decide_eq_false (by omega)))
              clear HY HN
              go_wp2_with fail
              refine HF.out.mono ?_; rintro _ wq1 ⟨rfl, hq_wq1⟩
              have HQ := Aside0.mk (bstep hbi.out hq_wq1)
              clear hcut hq_wq1
              have HR1 := Aside0.mk (Kd.R_below HR.out HQ.out)
              have HB1' := Aside0.mk (bstep hb.out HQ.out)
              go_wp2_with (at_builtin; refine i64_append (w := w1) rfl (.tmp 43) (.tmp 45) rfl _ (flEnds k L s) (t : Int) rfl rfl HR1.out HB1'.out (by omega) ?_; intro v1 w9 hR1 hB1 _; have HR9 := Aside0.mk hR1; have HB9 := Aside0.mk hB1; clear hR1 hB1)
              go_roundg (gO - 1)
              case measure => have := HK.out; omega
              case rel => exact ⟨s + 1, by have := HK.out; omega, by go_num, by rw [HEND.out], ⟨by rw [HENDS.out, HEND.out]; exact HR9.out⟩, HB9⟩
            · have HGO := Aside0.mk (show flAt k L (s + 1) = flEnd k s L a (gk - 1) (t + 1) by rw [hp.out.1]; exact HY.out (decide_eq_true (by omega)))
              clear HY HN
              go_wp2_with fail
              refine HF.out.mono ?_; rintro _ wq1 ⟨rfl, hq_wq1⟩
              have HQ := Aside0.mk (bstep hbi.out hq_wq1)
              clear hcut hq_wq1
              go_wp2
              go_roundg (gk - 1)
              case measure => have := HKi.out; omega
              case rel => exact ⟨t + 1, by have := HKi.out; omega, by go_num, ⟨HGO.out, by omega⟩, HQ⟩
          · have HEND := Aside0.mk (show flAt k L (s + 1) = t by rw [hp.out.1]; exact flEnd_stop (fun h => htl h.1))
            have t60 : t ≤ 60 := by omega
            clear hk
            have HR1 := Aside0.mk (Kd.R_below HR.out hbi.out)
            have HB1' := Aside0.mk (bstep hb.out hbi.out)
            go_wp2_with (at_builtin; refine i64_append (w := w1) rfl (.tmp 43) (.tmp 45) rfl _ (flEnds k L s) (t : Int) rfl rfl HR1.out HB1'.out (by omega) ?_; intro v1 w9 hR1 hB1 _; have HR9 := Aside0.mk hR1; have HB9 := Aside0.mk hB1; clear hR1 hB1)
            go_roundg (gO - 1)
            case measure => have := HK.out; omega
            case rel => exact ⟨s + 1, by have := HK.out; omega, by go_num, by rw [HEND.out], ⟨by rw [HENDS.out, HEND.out]; exact HR9.out⟩, HB9⟩
      · have hs : s = k.hs.length := by omega
        have HBr := Aside0.mk (HB1.out.trans (hb.out.mono HB1.out.size))
        have HR2 := Aside0.mk (Kd.R_lower HR.out HB1.out.size)
        rw [hs] at HR2
        have HAT2 := Aside0.mk (show flAt k L k.hs.length = flAt k L s by rw [hs])
        generalize flAt k L s = a at hat HAT2 ⊢
        clear hk hs
        by_cases hal : a < L.length
        · have HE := Aside0.mk (fs_over HV0.out (by rw [HAT2.out]; exact hal))
          go_wp2
          go_ret2
          rw [HE.out.1, HE.out.2]
          exact ⟨_, rfl, balloc HBr.out _, _, rfl, R_zero _ _ _ _ _ HBr.out.size trivial⟩
        · have HE := Aside0.mk (fs_ok HV0.out (by rw [HAT2.out]; exact hal))
          go_wp2
          go_ret2
          rw [HE.out.1, HE.out.2]
          exact ⟨_, rfl, HBr.out, _, rfl, HR2.out⟩
  · have HE := Aside0.mk (fs_bad hv)
    rw [hv] at HA
    clear hv
    go_enter Try.func59, Try.ntmps59
    go_wp2_with fail
    refine HA.out.mono ?_; rintro _ w1 ⟨rfl, hb1⟩
    have HB1 := Aside0.mk (bstep HB.out hb1)
    clear hb1
    go_wp2_with fail
    go_ret2
    rw [HE.out.1, HE.out.2]
    exact ⟨_, rfl, balloc HB1.out _, _, rfl, R_zero _ _ _ _ _ HB1.out.size trivial⟩
end Go.Proofs.Ytdippdkneeocfaa
