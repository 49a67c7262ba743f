/- Layouts: the first bad shelf, the reference's; the codes of layouts; CheckLayout, FirstBadShelf. -/
import Derived.Test.YtdippdkneeocfaaBad
import Derived.StillTailTactics
import Derived.Still
import Derived.Deep.QuietTactic
import Derived.BigQuiet
namespace Go.Proofs.Ytdippdkneeocfaa
open Go.RowKit Go.Proofs.YtdippdkneeocfaaW.PrintWords Go.Proofs.YtdippdkneeocfaaW.PrintMore
set_option linter.unusedVariables false
set_option linter.unusedSimpArgs false
set_option maxRecDepth 100000

set_option maxHeartbeats 4000000 in
theorem l02Bad_c (k : Cs) (A : Option Addr) (c : Nat) (p : Addr) (A1 : Option Addr) (c1 : Nat) (L : List Bk) (A2 : Option Addr) (c2 : Nat) (E : List Int) (hok : k.ok) (hfo : FitOk L) (hbd : CsBd k) (hc1 : L.length ≤ c1) (w : World) (hp : CsAt w p k A c) (hC : (Kd.int .i16).C w A k.hs.length k.hs) (hL : kBk.C w A1 L.length L) (hE : (Kd.int .i64).C w A2 E.length E) :
    Calls Try.prog 131 #[.pointer (some p), .slice A1 L.length c1, .slice A2 E.length c2] w (Ret w (.int .i64 (badL k L E))) := by
  have hm := Kd.C_max hC
  have hm1 := Kd.C_max hL
  have hm2 := Kd.C_max hE
  have HC := Aside0.mk hC
  have HL := Aside0.mk hL
  have HE := Aside0.mk hE
  have HP := Aside0.mk hp
  have HOK := Aside0.mk hok
  have HFO := Aside0.mk hfo
  have HBD := Aside0.mk hbd
  have hn12 : k.hs.length ≤ 12 := hbd.n.2
  have hl60 : L.length ≤ 60 := hfo.len
  have HBAD := Aside0.mk (show badGo k L E (k.hs.length - 0) 0 0 = badL k L E from rfl)
  obtain ⟨y0, y1, y2⟩ := hp
  clear hC hL hE hok hfo hbd
  go_enter Try.func131, Try.ntmps131
  go_wp2_with fail
  clear y0 y1 y2
  go_loopg [7, 8] k.hs.length (fun gk v7 v8 wr => ∃ s : Nat, ∃ a : Int, s + gk = k.hs.length ∧ v8 = .int .i64 s ∧ v7 = .int .i64 a ∧ Aside0 (badGo k L E (k.hs.length - s) s a = badL k L E ∧ 0 ≤ a ∧ a ≤ 60) ∧ Aside0 (Below w.heap.size w wr))
  case atStart => exact ⟨0, 0, by omega, rfl, rfl, ⟨HBAD.out, by decide, by decide⟩, ⟨Below.refl _ _⟩⟩
  case round =>
    clear HBAD
    obtain ⟨s, a, hk, rfl, rfl, hp, hb⟩ := hrel
    have HK := Aside0.mk hk
    have HPr := Aside0.mk (HP.out.below hb.out)
    obtain ⟨y0, y1, y2⟩ := HPr.out
    obtain ⟨_, a0, a60⟩ := hp.out
    by_cases hlt : s < k.hs.length
    · clear hk
      have i0 : (0 : Int) ≤ (s : Int) := by omega
      by_cases hse : s < E.length
      · obtain ⟨ad, e, rfl, hbe, hxe⟩ := at_int' (Kd.C_below HE.out hb.out) s hse
        have d1 : decide ((E.length : Int) ≤ (s : Int)) = false := decide_eq_false (by omega)
        have d1' : decide (E.length ≤ s) = false := decide_eq_false (by omega)
        have i1 : (s : Int) < (E.length : Int) := by omega
        by_cases e1 : a ≤ e
        · by_cases e2 : e ≤ L.length
          · obtain ⟨A', c', hcut, hc', hCC⟩ := cut_bk A1 c1 L a e a0 e1 e2 hc1
            have HF := Aside0.mk (l02Free_c k A c s p A' c' (subL L a e) HOK.out (HFO.out.sub (subL_sub L a e)) hlt (HBD.out.h s) wr HPr.out (Kd.C_below HC.out hb.out) (hCC _ (Kd.C_below HL.out hb.out)))
            have HY := Aside0.mk (fun h => badGo_yes (k := k) (L := L) (E := E) (a := a) hlt hbe.out e1 e2 h)
            have HNO := Aside0.mk (fun (h : fitL k s (subL L a e) = false) => badGo_no (k := k) (L := L) (E := E) (a := a) hlt (by
              rw [getD_of hbe.out]
              rintro ⟨_, _, h3⟩
              rw [h] at h3; cases h3))
            rw [← free_iff] at HY HNO
            generalize freeL k s (subL L a e) = ft at HF HY HNO
            generalize subL L a e = M at HF hcut hc' hCC
            clear hCC
            by_cases hft : ft < 0
            · have HR := Aside0.mk (show badL k L E = (s : Int) by rw [← hp.out.1]; exact HNO.out (decide_eq_false (by omega)))
              clear HY HNO
              go_wp2_with fail
              refine HF.out.mono ?_; rintro _ w1 ⟨rfl, hb1⟩
              have HQ := Aside0.mk (bstep hb.out hb1)
              clear hb1 hcut
              go_wp2
              go_ret
              exact ⟨ret_int HR.out.symm, HQ.out⟩
            · have HR := Aside0.mk (show badGo k L E (k.hs.length - (s + 1)) (s + 1) e = badL k L E by rw [← hp.out.1]; exact (HY.out (decide_eq_true (by omega))).symm)
              clear HY HNO
              go_wp2_with fail
              refine HF.out.mono ?_; rintro _ w1 ⟨rfl, hb1⟩
              have HQ := Aside0.mk (bstep hb.out hb1)
              have hx1 : w1.cell? (ad.add s) = some (.int .i64 e) := pw_cell_below hb1 hxe
              clear hb1 hcut hxe y0 y1 y2
              go_wp2
              go_roundg (gk - 1)
              case measure => have := HK.out; omega
              case rel => exact ⟨s + 1, e, by have := HK.out; omega, by go_num, rfl, ⟨HR.out, by omega, by omega⟩, HQ⟩
          · have HR := Aside0.mk (show badL k L E = (s : Int) by
              rw [← hp.out.1]
              refine badGo_no hlt ?_
              rw [getD_of hbe.out]
              rintro ⟨_, h2, _⟩
              exact e2 h2.2)
            go_wp2
            go_ret
            exact ⟨ret_int HR.out.symm, hb.out⟩
        · have HR := Aside0.mk (show badL k L E = (s : Int) by
            rw [← hp.out.1]
            refine badGo_no hlt ?_
            rw [getD_of hbe.out]
            rintro ⟨_, h2, _⟩
            exact e1 h2.1)
          go_wp2
          go_ret
          exact ⟨ret_int HR.out.symm, hb.out⟩
      · have HR := Aside0.mk (show badL k L E = (s : Int) by
          rw [← hp.out.1]
          exact badGo_no hlt (fun h => hse h.1))
        go_wp2
        go_ret
        exact ⟨ret_int HR.out.symm, hb.out⟩
    · have HR := Aside0.mk (show badL k L E = if a = (L.length : Int) ∧ E.length ≤ k.hs.length then -1 else (k.hs.length : Int) by
        rw [← hp.out.1]; exact badGo_end s a (by omega))
      clear hk
      by_cases ha : a = (L.length : Int)
      · have b1 : (a != (L.length : Int)) = false := by simp [ha]
        by_cases hle : E.length ≤ k.hs.length
        · have HR2 := Aside0.mk (show badL k L E = -1 by rw [HR.out, if_pos ⟨ha, hle⟩])
          clear HR ha
          go_wp2
          go_ret
          exact ⟨ret_int HR2.out.symm, hb.out⟩
        · have HR2 := Aside0.mk (show badL k L E = (k.hs.length : Int) by rw [HR.out, if_neg (fun h => hle h.2)])
          clear HR ha
          go_wp2
          go_ret
          exact ⟨ret_int HR2.out.symm, hb.out⟩
      · have b1 : (a != (L.length : Int)) = true := by simp [ha]
        have HR2 := Aside0.mk (show badL k L E = (k.hs.length : Int) by rw [HR.out, if_neg (fun h => ha h.1)])
        clear HR ha
        go_wp2
        go_ret
        exact ⟨ret_int HR2.out.symm, hb.out⟩
/-- The code of a layout. -/
def layC (k : Cs) (L : List Bk) (E : List Int) : Int := if eCL k L = 0 then (if 0 ≤ badL k L E then 8 else 0) else eCL k L
theorem lay_1 {k : Cs} {L : List Bk} {E : List Int} (h : eCL k L = 1) : layC k L E = 1 := by unfold layC; rw [h]; rfl
theorem lay_0 {k : Cs} {L : List Bk} {E : List Int} (h : eCL k L = 0) : layC k L E = if 0 ≤ badL k L E then 8 else 0 := by unfold layC; rw [if_pos h]
theorem eCL_split (k : Cs) (L : List Bk) : (eCL k L = 0 ∧ vCase k = true ∧ vBooks L = true) ∨ eCL k L = 1 := by
  unfold eCL
  by_cases h : (vCase k && vBooks L) = true
  · rw [if_pos h]; left; simpa using h
  · rw [if_neg h]; right; rfl
set_option maxHeartbeats 2000000 in
theorem layoutCode_c (k : Cs) (A : Option Addr) (c : Nat) (A1 : Option Addr) (c1 : Nat) (L : List Bk) (A2 : Option Addr) (c2 : Nat) (E : List Int) (hok : k.ok) (hoL : OkL L) (hc1 : L.length ≤ c1) (w : World) (hC : (Kd.int .i16).C w A k.hs.length k.hs) (hL : kBk.C w A1 L.length L) (hE : (Kd.int .i64).C w A2 E.length E) :
    Calls Try.prog 136 #[k.val A c, .slice A1 L.length c1, .slice A2 E.length c2] w (Ret w (.int .i64 (layC k L E))) := by
  have HE2 := Aside0.mk hE
  clear hE
  have hm := Kd.C_max hC
  have hm1 := Kd.C_max hL
  have HC := Aside0.mk hC
  have HL := Aside0.mk hL
  have HVC := Aside0.mk (fun W h => ValidCase_c k A c W h)
  have HVB := Aside0.mk (fun W h => ValidBooks_c A1 c1 L W h)
  have HB := Aside0.mk (balloc (Below.refl w.heap.size w) (.cells #[.int .i16 k.wd, .int .i32 k.ld, .slice A k.hs.length c] 51))
  have HX := Aside0.mk (CsAt.box w k A c 51)
  clear hC hL
  simp only [Cs.val] at HVC ⊢
  cases v1 : vCase k
  · rw [v1] at HVC
    have HE := Aside0.mk (lay_1 (E := E) (eCL_1 (L := L) v1))
    clear v1
    obtain ⟨y0, y1, y2⟩ := HX.out
    go_enter Try.func136, Try.ntmps136
    go_wp2_with fail
    refine (HVC.out _ (Kd.C_alloc HC.out _)).mono ?_; rintro _ w1 ⟨rfl, hb1⟩
    have HB1 := Aside0.mk (bstep HB.out hb1)
    have HX1 := Aside0.mk (HX.out.below hb1)
    clear hb1 y0 y1 y2
    obtain ⟨y0, y1, y2⟩ := HX1.out
    go_wp2_with fail
    go_ret
    exact ⟨ret_int HE.out.symm, HB1.out⟩
  · rw [v1] at HVC
    cases v2 : vBooks L
    · rw [v2] at HVB
      have HE := Aside0.mk (lay_1 (E := E) (eCL_2 (k := k) v2))
      clear v1 v2
      obtain ⟨y0, y1, y2⟩ := HX.out
      go_enter Try.func136, Try.ntmps136
      go_wp2_with fail
      refine (HVC.out _ (Kd.C_alloc HC.out _)).mono ?_; rintro _ w1 ⟨rfl, hb1⟩
      have HB1 := Aside0.mk (bstep HB.out hb1)
      have HX1 := Aside0.mk (HX.out.below hb1)
      clear hb1 y0 y1 y2
      obtain ⟨y0, y1, y2⟩ := HX1.out
      go_wp2_with fail
      refine (HVB.out _ (Kd.C_below HL.out HB1.out)).mono ?_; rintro _ w2 ⟨rfl, hb2⟩
      have HB2 := Aside0.mk (bstep HB1.out hb2)
      have HX2 := Aside0.mk (HX1.out.below hb2)
      clear hb2 y0 y1 y2
      obtain ⟨y0, y1, y2⟩ := HX2.out
      go_wp2_with fail
      go_ret
      exact ⟨ret_int HE.out.symm, HB2.out⟩
    · rw [v2] at HVB
      have HV0 := Aside0.mk (eCL_0 v1 v2)
      have HFO := Aside0.mk (FitOk.of v2)
      have HVK := Aside0.mk (vCase_bd v1)
      clear v1 v2
      have HF := Aside0.mk (fun W h1 h2 h3 => firstBad_c k A c A1 c1 L A2 c2 E hok hoL HFO.out.len HVK.out.n.2 hc1 W h1 h2 h3)
      have HR := Aside0.mk (lay_0 (E := E) HV0.out)
      simp only [Cs.val] at HF
      generalize badL k L E = b at HF HR
      by_cases hb : 0 ≤ b
      · rw [if_pos hb] at HR
        obtain ⟨y0, y1, y2⟩ := HX.out
        go_enter Try.func136, Try.ntmps136
        go_wp2_with fail
        refine (HVC.out _ (Kd.C_alloc HC.out _)).mono ?_; rintro _ w1 ⟨rfl, hb1⟩
        have HB1 := Aside0.mk (bstep HB.out hb1)
        have HX1 := Aside0.mk (HX.out.below hb1)
        clear hb1 y0 y1 y2
        obtain ⟨y0, y1, y2⟩ := HX1.out
        go_wp2_with fail
        refine (HVB.out _ (Kd.C_below HL.out HB1.out)).mono ?_; rintro _ w2 ⟨rfl, hb2⟩
        have HB2 := Aside0.mk (bstep HB1.out hb2)
        have HX2 := Aside0.mk (HX1.out.below hb2)
        clear hb2 y0 y1 y2
        obtain ⟨y0, y1, y2⟩ := HX2.out
        go_wp2_with fail
        refine (HF.out _ (Kd.C_below HC.out HB2.out) (Kd.C_below HL.out HB2.out) (Kd.C_below HE2.out HB2.out)).mono ?_; rintro _ w3 ⟨rfl, hb3⟩
        have HB3 := Aside0.mk (bstep HB2.out hb3)
        clear hb3
        go_wp2_with fail
        go_ret
        exact ⟨ret_int HR.out.symm, HB3.out⟩
      · rw [if_neg hb] at HR
        obtain ⟨y0, y1, y2⟩ := HX.out
        go_enter Try.func136, Try.ntmps136
        go_wp2_with fail
        refine (HVC.out _ (Kd.C_alloc HC.out _)).mono ?_; rintro _ w1 ⟨rfl, hb1⟩
        have HB1 := Aside0.mk (bstep HB.out hb1)
        have HX1 := Aside0.mk (HX.out.below hb1)
        clear hb1 y0 y1 y2
        obtain ⟨y0, y1, y2⟩ := HX1.out
        go_wp2_with fail
        refine (HVB.out _ (Kd.C_below HL.out HB1.out)).mono ?_; rintro _ w2 ⟨rfl, hb2⟩
        have HB2 := Aside0.mk (bstep HB1.out hb2)
        have HX2 := Aside0.mk (HX1.out.below hb2)
        clear hb2 y0 y1 y2
        obtain ⟨y0, y1, y2⟩ := HX2.out
        go_wp2_with fail
        refine (HF.out _ (Kd.C_below HC.out HB2.out) (Kd.C_below HL.out HB2.out) (Kd.C_below HE2.out HB2.out)).mono ?_; rintro _ w3 ⟨rfl, hb3⟩
        have HB3 := Aside0.mk (bstep HB2.out hb3)
        clear hb3
        go_wp2_with fail
        go_ret
        exact ⟨ret_int HR.out.symm, HB3.out⟩
set_option maxHeartbeats 2000000 in
theorem l02Laid_c (k : Cs) (A : Option Addr) (c : Nat) (p : Addr) (A1 : Option Addr) (c1 : Nat) (L : List Bk) (A2 : Option Addr) (c2 : Nat) (E : List Int) (hok : k.ok) (hoL : OkL L) (hc1 : L.length ≤ c1) (w : World) (hp : CsAt w p k A c) (hC : (Kd.int .i16).C w A k.hs.length k.hs) (hL : kBk.C w A1 L.length L) (hE : (Kd.int .i64).C w A2 E.length E) :
    Calls Try.prog 134 #[.pointer (some p), .slice A1 L.length c1, .slice A2 E.length c2] w (Ret w (.int .i64 (layC k L E))) := by
  have HA := Aside0.mk (l02Asked_c k A c p A1 c1 L hok hoL w hp hC hL)
  have HP := Aside0.mk hp
  have HC := Aside0.mk hC
  have HL := Aside0.mk hL
  have HE2 := Aside0.mk hE
  clear hC hL hE hp
  rcases eCL_split k L with ⟨hv, v1, v2⟩ | hv
  · have HF := Aside0.mk (fun W h0 h1 h2 h3 => l02Bad_c k A c p A1 c1 L A2 c2 E hok (FitOk.of v2) (vCase_bd v1) hc1 W h0 h1 h2 h3)
    have HR := Aside0.mk (lay_0 (E := E) hv)
    rw [hv] at HA
    clear hv v1 v2
    generalize badL k L E = b at HF HR
    by_cases hb : 0 ≤ b
    · rw [if_pos hb] at HR
      go_enter Try.func134, Try.ntmps134
      go_wp2_with fail
      refine HA.out.mono ?_; rintro _ w1 ⟨rfl, hb1⟩
      have HB1 := Aside0.mk hb1
      clear hb1
      go_wp2_with fail
      refine (HF.out _ (HP.out.below HB1.out) (Kd.C_below HC.out HB1.out) (Kd.C_below HL.out HB1.out) (Kd.C_below HE2.out HB1.out)).mono ?_; rintro _ w3 ⟨rfl, hb3⟩
      have HB3 := Aside0.mk (bstep HB1.out hb3)
      clear hb3
      go_wp2_with fail
      go_ret
      exact ⟨ret_int HR.out.symm, HB3.out⟩
    · rw [if_neg hb] at HR
      go_enter Try.func134, Try.ntmps134
      go_wp2_with fail
      refine HA.out.mono ?_; rintro _ w1 ⟨rfl, hb1⟩
      have HB1 := Aside0.mk hb1
      clear hb1
      go_wp2_with fail
      refine (HF.out _ (HP.out.below HB1.out) (Kd.C_below HC.out HB1.out) (Kd.C_below HL.out HB1.out) (Kd.C_below HE2.out HB1.out)).mono ?_; rintro _ w3 ⟨rfl, hb3⟩
      have HB3 := Aside0.mk (bstep HB1.out hb3)
      clear hb3
      go_wp2_with fail
      go_ret
      exact ⟨ret_int HR.out.symm, HB3.out⟩
  · have HR := Aside0.mk (lay_1 (E := E) hv)
    rw [hv] at HA
    clear hv
    go_enter Try.func134, Try.ntmps134
    go_wp2_with fail
    refine HA.out.mono ?_; rintro _ w1 ⟨rfl, hb1⟩
    have HB1 := Aside0.mk hb1
    clear hb1
    go_wp2_with fail
    go_ret
    exact ⟨ret_int HR.out.symm, HB1.out⟩
def clV (k : Cs) (L : List Bk) (E : List Int) : Bool := decide (eCL k L = 0) && decide (badL k L E < 0)
def fbE (k : Cs) (L : List Bk) (E : List Int) : Int := if eCL k L = 0 then (if badL k L E < 0 then 6 else 0) else eCL k L
def fbV (k : Cs) (L : List Bk) (E : List Int) : Int := if fbE k L E = 0 then badL k L E else 0
theorem cl_bad {k : Cs} {L : List Bk} {E : List Int} (h : eCL k L = 1) : clV k L E = false ∧ eCL k L = 1 := ⟨by unfold clV; rw [h]; rfl, h⟩
theorem cl_ok {k : Cs} {L : List Bk} {E : List Int} (h : eCL k L = 0) : clV k L E = decide (badL k L E < 0) ∧ eCL k L = 0 := ⟨by unfold clV; rw [h]; rfl, h⟩
theorem fb_bad {k : Cs} {L : List Bk} {E : List Int} (h : eCL k L = 1) : fbV k L E = 0 ∧ fbE k L E = 1 := by
  have h1 : fbE k L E = 1 := by unfold fbE; rw [h]; rfl
  exact ⟨by unfold fbV; rw [h1]; rfl, h1⟩
theorem fb_ok {k : Cs} {L : List Bk} {E : List Int} (h : eCL k L = 0) : fbV k L E = (if badL k L E < 0 then 0 else badL k L E) ∧ fbE k L E = if badL k L E < 0 then 6 else 0 := by
  have h1 : fbE k L E = if badL k L E < 0 then 6 else 0 := by unfold fbE; rw [if_pos h]
  refine ⟨?_, h1⟩
  unfold fbV
  rw [h1]
  by_cases h2 : badL k L E < 0
  · rw [if_pos h2, if_pos h2]; rfl
  · rw [if_neg h2, if_neg h2]; rfl
set_option maxHeartbeats 2000000 in
theorem CheckLayout_c (k : Cs) (A : Option Addr) (c : Nat) (A1 : Option Addr) (c1 : Nat) (L : List Bk) (A2 : Option Addr) (c2 : Nat) (E : List Int) (hok : k.ok) (hoL : OkL L) (hc1 : L.length ≤ c1) (w : World) (hC : (Kd.int .i16).C w A k.hs.length k.hs) (hL : kBk.C w A1 L.length L) (hE : (Kd.int .i64).C w A2 E.length E) :
    Calls Try.prog 56 #[k.val A c, .slice A1 L.length c1, .slice A2 E.length c2] w (Ret w (.tuple #[.bool (clV k L E), .int .i64 (eCL k L)])) := by
  have HE2 := Aside0.mk hE
  clear hE
  have hm := Kd.C_max hC
  have hm1 := Kd.C_max hL
  have HC := Aside0.mk hC
  have HL := Aside0.mk hL
  have HVC := Aside0.mk (fun W h => ValidCase_c k A c W h)
  have HVB := Aside0.mk (fun W h => ValidBooks_c A1 c1 L W h)
  have HB := Aside0.mk (balloc (Below.refl w.heap.size w) (.cells #[.int .i16 k.wd, .int .i32 k.ld, .slice A k.hs.length c] 51))
  have HX := Aside0.mk (CsAt.box w k A c 51)
  clear hC hL
  simp only [Cs.val] at HVC ⊢
  cases v1 : vCase k
  · rw [v1] at HVC
    have HE := Aside0.mk (cl_bad (E := E) (eCL_1 (L := L) v1))
    clear v1
    obtain ⟨y0, y1, y2⟩ := HX.out
    go_enter Try.func56, Try.ntmps56
    go_wp2_with fail
    refine (HVC.out _ (Kd.C_alloc HC.out _)).mono ?_; rintro _ w1 ⟨rfl, hb1⟩
    have HB1 := Aside0.mk (bstep HB.out hb1)
    have HX1 := Aside0.mk (HX.out.below hb1)
    clear hb1 y0 y1 y2
    obtain ⟨y0, y1, y2⟩ := HX1.out
    go_wp2_with fail
    go_ret2
    exact ⟨ret_bi HE.out.1.symm HE.out.2.symm, HB1.out⟩
  · rw [v1] at HVC
    cases v2 : vBooks L
    · rw [v2] at HVB
      have HE := Aside0.mk (cl_bad (E := E) (eCL_2 (k := k) v2))
      clear v1 v2
      obtain ⟨y0, y1, y2⟩ := HX.out
      go_enter Try.func56, Try.ntmps56
      go_wp2_with fail
      refine (HVC.out _ (Kd.C_alloc HC.out _)).mono ?_; rintro _ w1 ⟨rfl, hb1⟩
      have HB1 := Aside0.mk (bstep HB.out hb1)
      have HX1 := Aside0.mk (HX.out.below hb1)
      clear hb1 y0 y1 y2
      obtain ⟨y0, y1, y2⟩ := HX1.out
      go_wp2_with fail
      refine (HVB.out _ (Kd.C_below HL.out HB1.out)).mono ?_; rintro _ w2 ⟨rfl, hb2⟩
      have HB2 := Aside0.mk (bstep HB1.out hb2)
      have HX2 := Aside0.mk (HX1.out.below hb2)
      clear hb2 y0 y1 y2
      obtain ⟨y0, y1, y2⟩ := HX2.out
      go_wp2_with fail
      go_ret2
      exact ⟨ret_bi HE.out.1.symm HE.out.2.symm, HB2.out⟩
    · rw [v2] at HVB
      have HV0 := Aside0.mk (eCL_0 v1 v2)
      have HFO := Aside0.mk (FitOk.of v2)
      have HVK := Aside0.mk (vCase_bd v1)
      clear v1 v2
      have HF := Aside0.mk (fun W h1 h2 h3 => firstBad_c k A c A1 c1 L A2 c2 E hok hoL HFO.out.len HVK.out.n.2 hc1 W h1 h2 h3)
      have HR := Aside0.mk (cl_ok (E := E) HV0.out)
      simp only [Cs.val] at HF
      obtain ⟨y0, y1, y2⟩ := HX.out
      go_enter Try.func56, Try.ntmps56
      go_wp2_with fail
      refine (HVC.out _ (Kd.C_alloc HC.out _)).mono ?_; rintro _ w1 ⟨rfl, hb1⟩
      have HB1 := Aside0.mk (bstep HB.out hb1)
      have HX1 := Aside0.mk (HX.out.below hb1)
      clear hb1 y0 y1 y2
      obtain ⟨y0, y1, y2⟩ := HX1.out
      go_wp2_with fail
      refine (HVB.out _ (Kd.C_below HL.out HB1.out)).mono ?_; rintro _ w2 ⟨rfl, hb2⟩
      have HB2 := Aside0.mk (bstep HB1.out hb2)
      have HX2 := Aside0.mk (HX1.out.below hb2)
      clear hb2 y0 y1 y2
      obtain ⟨y0, y1, y2⟩ := HX2.out
      go_wp2_with fail
      refine (HF.out _ (Kd.C_below HC.out HB2.out) (Kd.C_below HL.out HB2.out) (Kd.C_below HE2.out HB2.out)).mono ?_; rintro _ w3 ⟨rfl, hb3⟩
      have HB3 := Aside0.mk (bstep HB2.out hb3)
      clear hb3
      go_wp2_with fail
      go_ret2
      exact ⟨ret_bi HR.out.1.symm HR.out.2.symm, HB3.out⟩
set_option maxHeartbeats 2000000 in
theorem FirstBadShelf_c (k : Cs) (A : Option Addr) (c : Nat) (A1 : Option Addr) (c1 : Nat) (L : List Bk) (A2 : Option Addr) (c2 : Nat) (E : List Int) (hok : k.ok) (hoL : OkL L) (hc1 : L.length ≤ c1) (w : World) (hC : (Kd.int .i16).C w A k.hs.length k.hs) (hL : kBk.C w A1 L.length L) (hE : (Kd.int .i64).C w A2 E.length E) :
    Calls Try.prog 58 #[k.val A c, .slice A1 L.length c1, .slice A2 E.length c2] w (Ret w (.tuple #[.int .i64 (fbV k L E), .int .i64 (fbE k L E)])) := by
  have HE2 := Aside0.mk hE
  clear hE
  have hm := Kd.C_max hC
  have hm1 := Kd.C_max hL
  have HC := Aside0.mk hC
  have HL := Aside0.mk hL
  have HVC := Aside0.mk (fun W h => ValidCase_c k A c W h)
  have HVB := Aside0.mk (fun W h => ValidBooks_c A1 c1 L W h)
  have HB := Aside0.mk (balloc (Below.refl w.heap.size w) (.cells #[.int .i16 k.wd, .int .i32 k.ld, .slice A k.hs.length c] 51))
  have HX := Aside0.mk (CsAt.box w k A c 51)
  clear hC hL
  simp only [Cs.val] at HVC ⊢
  cases v1 : vCase k
  · rw [v1] at HVC
    have HE := Aside0.mk (fb_bad (E := E) (eCL_1 (L := L) v1))
    clear v1
    obtain ⟨y0, y1, y2⟩ := HX.out
    go_enter Try.func58, Try.ntmps58
    go_wp2_with fail
    refine (HVC.out _ (Kd.C_alloc HC.out _)).mono ?_; rintro _ w1 ⟨rfl, hb1⟩
    have HB1 := Aside0.mk (bstep HB.out hb1)
    have HX1 := Aside0.mk (HX.out.below hb1)
    clear hb1 y0 y1 y2
    obtain ⟨y0, y1, y2⟩ := HX1.out
    go_wp2_with fail
    go_ret2
    exact ⟨ret_two HE.out.1.symm HE.out.2.symm, HB1.out⟩
  · rw [v1] at HVC
    cases v2 : vBooks L
    · rw [v2] at HVB
      have HE := Aside0.mk (fb_bad (E := E) (eCL_2 (k := k) v2))
      clear v1 v2
      obtain ⟨y0, y1, y2⟩ := HX.out
      go_enter Try.func58, Try.ntmps58
      go_wp2_with fail
      refine (HVC.out _ (Kd.C_alloc HC.out _)).mono ?_; rintro _ w1 ⟨rfl, hb1⟩
      have HB1 := Aside0.mk (bstep HB.out hb1)
      have HX1 := Aside0.mk (HX.out.below hb1)
      clear hb1 y0 y1 y2
      obtain ⟨y0, y1, y2⟩ := HX1.out
      go_wp2_with fail
      refine (HVB.out _ (Kd.C_below HL.out HB1.out)).mono ?_; rintro _ w2 ⟨rfl, hb2⟩
      have HB2 := Aside0.mk (bstep HB1.out hb2)
      have HX2 := Aside0.mk (HX1.out.below hb2)
      clear hb2 y0 y1 y2
      obtain ⟨y0, y1, y2⟩ := HX2.out
      go_wp2_with fail
      go_ret2
      exact ⟨ret_two HE.out.1.symm HE.out.2.symm, HB2.out⟩
    · rw [v2] at HVB
      have HV0 := Aside0.mk (eCL_0 v1 v2)
      have HFO := Aside0.mk (FitOk.of v2)
      have HVK := Aside0.mk (vCase_bd v1)
      clear v1 v2
      have HF := Aside0.mk (fun W h1 h2 h3 => firstBad_c k A c A1 c1 L A2 c2 E hok hoL HFO.out.len HVK.out.n.2 hc1 W h1 h2 h3)
      have HR := Aside0.mk (fb_ok (E := E) HV0.out)
      simp only [Cs.val] at HF
      generalize badL k L E = b at HF HR
      by_cases hb : b < 0
      · rw [if_pos hb, if_pos hb] at HR
        obtain ⟨y0, y1, y2⟩ := HX.out
        go_enter Try.func58, Try.ntmps58
        go_wp2_with fail
        refine (HVC.out _ (Kd.C_alloc HC.out _)).mono ?_; rintro _ w1 ⟨rfl, hb1⟩
        have HB1 := Aside0.mk (bstep HB.out hb1)
        have HX1 := Aside0.mk (HX.out.below hb1)
        clear hb1 y0 y1 y2
        obtain ⟨y0, y1, y2⟩ := HX1.out
        go_wp2_with fail
        refine (HVB.out _ (Kd.C_below HL.out HB1.out)).mono ?_; rintro _ w2 ⟨rfl, hb2⟩
        have HB2 := Aside0.mk (bstep HB1.out hb2)
        have HX2 := Aside0.mk (HX1.out.below hb2)
        clear hb2 y0 y1 y2
        obtain ⟨y0, y1, y2⟩ := HX2.out
        go_wp2_with fail
        refine (HF.out _ (Kd.C_below HC.out HB2.out) (Kd.C_below HL.out HB2.out) (Kd.C_below HE2.out HB2.out)).mono ?_; rintro _ w3 ⟨rfl, hb3⟩
        have HB3 := Aside0.mk (bstep HB2.out hb3)
        clear hb3
        go_wp2_with fail
        go_ret2
        exact ⟨ret_two HR.out.1.symm HR.out.2.symm, HB3.out⟩
      · rw [if_neg hb, if_neg hb] at HR
        obtain ⟨y0, y1, y2⟩ := HX.out
        go_enter Try.func58, Try.ntmps58
        go_wp2_with fail
        refine (HVC.out _ (Kd.C_alloc HC.out _)).mono ?_; rintro _ w1 ⟨rfl, hb1⟩
        have HB1 := Aside0.mk (bstep HB.out hb1)
        have HX1 := Aside0.mk (HX.out.below hb1)
        clear hb1 y0 y1 y2
        obtain ⟨y0, y1, y2⟩ := HX1.out
        go_wp2_with fail
        refine (HVB.out _ (Kd.C_below HL.out HB1.out)).mono ?_; rintro _ w2 ⟨rfl, hb2⟩
        have HB2 := Aside0.mk (bstep HB1.out hb2)
        have HX2 := Aside0.mk (HX1.out.below hb2)
        clear hb2 y0 y1 y2
        obtain ⟨y0, y1, y2⟩ := HX2.out
        go_wp2_with fail
        refine (HF.out _ (Kd.C_below HC.out HB2.out) (Kd.C_below HL.out HB2.out) (Kd.C_below HE2.out HB2.out)).mono ?_; rintro _ w3 ⟨rfl, hb3⟩
        have HB3 := Aside0.mk (bstep HB2.out hb3)
        clear hb3
        go_wp2_with fail
        go_ret2
        exact ⟨ret_two HR.out.1.symm HR.out.2.symm, HB3.out⟩
/-- The reference's functions that ask for a case and a list first. -/
theorem box_asked (k : Cs) (A : Option Addr) (c : Nat) (A1 : Option Addr) (c1 : Nat) (L : List Bk) (hok : k.ok) (hoL : OkL L) (w : World) (hC : (Kd.int .i16).C w A k.hs.length k.hs) (hL : kBk.C w A1 L.length L) :
    Calls Try.prog 126 #[.pointer (some ⟨w.heap.size, 0, none⟩), .slice A1 L.length c1] (w.alloc (.cells #[.int .i16 k.wd, .int .i32 k.ld, .slice A k.hs.length c] 51)) (Ret (w.alloc (.cells #[.int .i16 k.wd, .int .i32 k.ld, .slice A k.hs.length c] 51)) (.int .i64 (eCL k L))) :=
  l02Asked_c k A c _ A1 c1 L hok hoL _ (CsAt.box w k A c 51) (Kd.C_alloc hC _) (Kd.C_alloc hL _)
set_option maxHeartbeats 2000000 in
theorem specCheckLayout_c (k : Cs) (A : Option Addr) (c : Nat) (A1 : Option Addr) (c1 : Nat) (L : List Bk) (A2 : Option Addr) (c2 : Nat) (E : List Int) (hok : k.ok) (hoL : OkL L) (hc1 : L.length ≤ c1) (w : World) (hC : (Kd.int .i16).C w A k.hs.length k.hs) (hL : kBk.C w A1 L.length L) (hE : (Kd.int .i64).C w A2 E.length E) :
    Calls Try.prog 55 #[k.val A c, .slice A1 L.length c1, .slice A2 E.length c2] w (Ret w (.tuple #[.bool (clV k L E), .int .i64 (eCL k L)])) := by
  have HE2 := Aside0.mk hE
  have HA := Aside0.mk (box_asked k A c A1 c1 L hok hoL w hC hL)
  have HC := Aside0.mk hC
  have HL := Aside0.mk hL
  have HB := Aside0.mk (balloc (Below.refl w.heap.size w) (.cells #[.int .i16 k.wd, .int .i32 k.ld, .slice A k.hs.length c] 51))
  have HX := Aside0.mk (CsAt.box w k A c 51)
  clear hC hL hE
  simp only [Cs.val]
  rcases eCL_split k L with ⟨hv, v1, v2⟩ | hv
  · have HF := Aside0.mk (fun p W h0 h1 h2 h3 => l02Bad_c k A c p A1 c1 L A2 c2 E hok (FitOk.of v2) (vCase_bd v1) hc1 W h0 h1 h2 h3)
    have HR := Aside0.mk (cl_ok (E := E) hv)
    rw [hv] at HA
    clear hv v1 v2
    go_enter Try.func55, Try.ntmps55
    go_wp2_with fail
    refine HA.out.mono ?_; rintro _ w1 ⟨rfl, hb1⟩
    have HB1 := Aside0.mk (bstep HB.out hb1)
    have HX1 := Aside0.mk (HX.out.below hb1)
    clear hb1
    go_wp2_with fail
    refine (HF.out _ _ HX1.out (Kd.C_below HC.out HB1.out) (Kd.C_below HL.out HB1.out) (Kd.C_below HE2.out HB1.out)).mono ?_; rintro _ w3 ⟨rfl, hb3⟩
    have HB3 := Aside0.mk (bstep HB1.out hb3)
    clear hb3
    go_wp2_with fail
    go_ret2
    exact ⟨ret_bi HR.out.1.symm HR.out.2.symm, HB3.out⟩
  · have HR := Aside0.mk (cl_bad (E := E) hv)
    rw [hv] at HA
    clear hv
    go_enter Try.func55, Try.ntmps55
    go_wp2_with fail
    refine HA.out.mono ?_; rintro _ w1 ⟨rfl, hb1⟩
    have HB1 := Aside0.mk (bstep HB.out hb1)
    clear hb1
    go_wp2_with fail
    go_ret2
    exact ⟨ret_bi HR.out.1.symm (by rw [HR.out.2]), HB1.out⟩
set_option maxHeartbeats 2000000 in
theorem specFirstBadShelf_c (k : Cs) (A : Option Addr) (c : Nat) (A1 : Option Addr) (c1 : Nat) (L : List Bk) (A2 : Option Addr) (c2 : Nat) (E : List Int) (hok : k.ok) (hoL : OkL L) (hc1 : L.length ≤ c1) (w : World) (hC : (Kd.int .i16).C w A k.hs.length k.hs) (hL : kBk.C w A1 L.length L) (hE : (Kd.int .i64).C w A2 E.length E) :
    Calls Try.prog 57 #[k.val A c, .slice A1 L.length c1, .slice A2 E.length c2] w (Ret w (.tuple #[.int .i64 (fbV k L E), .int .i64 (fbE k L E)])) := by
  have HE2 := Aside0.mk hE
  have HA := Aside0.mk (box_asked k A c A1 c1 L hok hoL w hC hL)
  have HC := Aside0.mk hC
  have HL := Aside0.mk hL
  have HB := Aside0.mk (balloc (Below.refl w.heap.size w) (.cells #[.int .i16 k.wd, .int .i32 k.ld, .slice A k.hs.length c] 51))
  have HX := Aside0.mk (CsAt.box w k A c 51)
  clear hC hL hE
  simp only [Cs.val]
  rcases eCL_split k L with ⟨hv, v1, v2⟩ | hv
  · have HF := Aside0.mk (fun p W h0 h1 h2 h3 => l02Bad_c k A c p A1 c1 L A2 c2 E hok (FitOk.of v2) (vCase_bd v1) hc1 W h0 h1 h2 h3)
    have HR := Aside0.mk (fb_ok (E := E) hv)
    rw [hv] at HA
    clear hv v1 v2
    generalize badL k L E = b at HF HR
    by_cases hb : b < 0
    · rw [if_pos hb, if_pos hb] at HR
      go_enter Try.func57, Try.ntmps57
      go_wp2_with fail
      refine HA.out.mono ?_; rintro _ w1 ⟨rfl, hb1⟩
      have HB1 := Aside0.mk (bstep HB.out hb1)
      have HX1 := Aside0.mk (HX.out.below hb1)
      clear hb1
      go_wp2_with fail
      refine (HF.out _ _ HX1.out (Kd.C_below HC.out HB1.out) (Kd.C_below HL.out HB1.out) (Kd.C_below HE2.out HB1.out)).mono ?_; rintro _ w3 ⟨rfl, hb3⟩
      have HB3 := Aside0.mk (bstep HB1.out hb3)
      clear hb3
      go_wp2_with fail
      go_ret2
      exact ⟨ret_two HR.out.1.symm HR.out.2.symm, HB3.out⟩
    · rw [if_neg hb, if_neg hb] at HR
      go_enter Try.func57, Try.ntmps57
      go_wp2_with fail
      refine HA.out.mono ?_; rintro _ w1 ⟨rfl, hb1⟩
      have HB1 := Aside0.mk (bstep HB.out hb1)
      have HX1 := Aside0.mk (HX.out.below hb1)
      clear hb1
      go_wp2_with fail
      refine (HF.out _ _ HX1.out (Kd.C_below HC.out HB1.out) (Kd.C_below HL.out HB1.out) (Kd.C_below HE2.out HB1.out)).mono ?_; rintro _ w3 ⟨rfl, hb3⟩
      have HB3 := Aside0.mk (bstep HB1.out hb3)
      clear hb3
      go_wp2_with fail
      go_ret2
      exact ⟨ret_two HR.out.1.symm HR.out.2.symm, HB3.out⟩
  · have HR := Aside0.mk (fb_bad (E := E) hv)
    rw [hv] at HA
    clear hv
    go_enter Try.func57, Try.ntmps57
    go_wp2_with fail
    refine HA.out.mono ?_; rintro _ w1 ⟨rfl, hb1⟩
    have HB1 := Aside0.mk (bstep HB.out hb1)
    clear hb1
    go_wp2_with fail
    go_ret2
    exact ⟨ret_two HR.out.1.symm HR.out.2.symm, HB1.out⟩
end Go.Proofs.Ytdippdkneeocfaa
