/- CheckTable, ProvedCost: the program's and the reference's. -/
import Derived.Test.YtdippdkneeocfaaProofS
import Derived.Test.YtdippdkneeocfaaRow
import Derived.StillTailTactics
import Derived.Still
import Derived.Deep.QuietTactic
import Derived.BigQuiet
namespace Go.Proofs.Ytdippdkneeocfaa
open Go.RowKit Go.Proofs.YtdippdkneeocfaaW.PrintWords Go.Proofs.YtdippdkneeocfaaW.PrintMore
set_option linter.unusedVariables false
set_option linter.unusedSimpArgs false
set_option maxRecDepth 100000

noncomputable def ctV (k : Cs) (L : List Bk) (T : List (List Int)) : Bool := decide (eCL k L = 0) && prf k L T
theorem ct_bad {k : Cs} {L : List Bk} (T : List (List Int)) (h : eCL k L = 1) : ctV k L T = false ∧ eCL k L = 1 := ⟨by unfold ctV; rw [h]; rfl, h⟩
theorem ct_ok {k : Cs} {L : List Bk} (T : List (List Int)) (h : eCL k L = 0) : ctV k L T = prf k L T := by unfold ctV; rw [h]; rfl
noncomputable def pcE (k : Cs) (L : List Bk) (T : List (List Int)) : Int := if eCL k L = 0 then (if prf k L T = true then (if tb T 0 0 = -1 then 6 else 0) else 8) else eCL k L
noncomputable def pcV (k : Cs) (L : List Bk) (T : List (List Int)) : Int := if pcE k L T = 0 then tb T 0 0 else 0
theorem pc_bad {k : Cs} {L : List Bk} (T : List (List Int)) (h : eCL k L = 1) : pcV k L T = 0 ∧ pcE k L T = 1 := by
  have h1 : pcE k L T = 1 := by unfold pcE; rw [h]; rfl
  exact ⟨by unfold pcV; rw [h1]; rfl, h1⟩
theorem pc_no {k : Cs} {L : List Bk} {T : List (List Int)} (h : eCL k L = 0) (h2 : prf k L T = false) : pcV k L T = 0 ∧ pcE k L T = 8 := by
  have h1 : pcE k L T = 8 := by unfold pcE; rw [if_pos h, h2]; rfl
  exact ⟨by unfold pcV; rw [h1]; rfl, h1⟩
theorem pc_none {k : Cs} {L : List Bk} {T : List (List Int)} (h : eCL k L = 0) (h2 : prf k L T = true) (h3 : tb T 0 0 = -1) : pcV k L T = 0 ∧ pcE k L T = 6 := by
  have h1 : pcE k L T = 6 := by unfold pcE; rw [if_pos h, if_pos h2, if_pos h3]
  exact ⟨by unfold pcV; rw [h1]; rfl, h1⟩
theorem pc_ok {k : Cs} {L : List Bk} {T : List (List Int)} (h : eCL k L = 0) (h2 : prf k L T = true) (h3 : tb T 0 0 ≠ -1) : pcV k L T = tb T 0 0 ∧ pcE k L T = 0 := by
  have h1 : pcE k L T = 0 := by unfold pcE; rw [if_pos h, if_pos h2, if_neg h3]
  exact ⟨by unfold pcV; rw [if_pos h1], h1⟩
theorem prf_P {k : Cs} {L : List Bk} {T : List (List Int)} (h : prf k L T = true) : PfP k L T := by
  by_cases hp : PfP k L T
  · exact hp
  · rw [prf_no hp] at h; cases h
set_option maxHeartbeats 4000000 in
theorem CheckTable_c (k : Cs) (A : Option Addr) (c : Nat) (A1 : Option Addr) (c1 : Nat) (L : List Bk) (A2 : Option Addr) (c2 : Nat) (T : List (List Int)) (hok : k.ok) (hoL : OkL L) (hoT : ∀ r, r ∈ T → OkI64 r) (hc1 : L.length ≤ c1) (w : World) (hC : (Kd.int .i16).C w A k.hs.length k.hs) (hL : kBk.C w A1 L.length L) (hT : kT.C w A2 T.length T) :
    Calls Try.prog 77 #[k.val A c, .slice A1 L.length c1, .slice A2 T.length c2] w (Ret w (.tuple #[.bool (ctV k L T), .int .i64 (eCL k L)])) := by
  have HT := Aside0.mk hT
  have HOT := Aside0.mk hoT
  clear hT hoT
  have hm := Kd.C_max hC
  have hm1 := Kd.C_max hL
  have HC := Aside0.mk hC
  have HL := Aside0.mk hL
  have HVC := Aside0.mk (fun W h => ValidCase_c k A c W h)
  have HVB := Aside0.mk (fun W h => ValidBooks_c A1 c1 L W h)
  have HB := Aside0.mk (balloc (Below.refl w.heap.size w) (.cells #[.int .i16 k.wd, .int .i32 k.ld, .slice A k.hs.length c] 51))
  have HX := Aside0.mk (CsAt.box w k A c 51)
  clear hC hL
  simp only [Cs.val] at HVC ⊢
  cases v1 : vCase k
  · rw [v1] at HVC
    have HE := Aside0.mk (ct_bad T (eCL_1 (L := L) v1))
    clear v1
    obtain ⟨y0, y1, y2⟩ := HX.out
    go_enter Try.func77, Try.ntmps77
    go_wp2_with fail
    refine (HVC.out _ (Kd.C_alloc HC.out _)).mono ?_; rintro _ w1 ⟨rfl, hb1⟩
    have HB1 := Aside0.mk (bstep HB.out hb1)
    have HX1 := Aside0.mk (HX.out.below hb1)
    clear hb1 y0 y1 y2
    obtain ⟨y0, y1, y2⟩ := HX1.out
    go_wp2_with fail
    go_ret2
    exact ⟨ret_bi HE.out.1.symm HE.out.2.symm, HB1.out⟩
  · rw [v1] at HVC
    cases v2 : vBooks L
    · rw [v2] at HVB
      have HE := Aside0.mk (ct_bad T (eCL_2 (k := k) v2))
      clear v1 v2
      obtain ⟨y0, y1, y2⟩ := HX.out
      go_enter Try.func77, Try.ntmps77
      go_wp2_with fail
      refine (HVC.out _ (Kd.C_alloc HC.out _)).mono ?_; rintro _ w1 ⟨rfl, hb1⟩
      have HB1 := Aside0.mk (bstep HB.out hb1)
      have HX1 := Aside0.mk (HX.out.below hb1)
      clear hb1 y0 y1 y2
      obtain ⟨y0, y1, y2⟩ := HX1.out
      go_wp2_with fail
      refine (HVB.out _ (Kd.C_below HL.out HB1.out)).mono ?_; rintro _ w2 ⟨rfl, hb2⟩
      have HB2 := Aside0.mk (bstep HB1.out hb2)
      have HX2 := Aside0.mk (HX1.out.below hb2)
      clear hb2 y0 y1 y2
      obtain ⟨y0, y1, y2⟩ := HX2.out
      go_wp2_with fail
      go_ret2
      exact ⟨ret_bi HE.out.1.symm HE.out.2.symm, HB2.out⟩
    · rw [v2] at HVB
      have HV0 := Aside0.mk (eCL_0 v1 v2)
      have HFO := Aside0.mk (FitOk.of v2)
      have HVK := Aside0.mk (vCase_bd v1)
      clear v1 v2
      have HP := Aside0.mk (fun W h1 h2 h3 => isProof_c k A c A1 c1 L A2 c2 T hok hoL HVK.out HFO.out HOT.out hc1 W h1 h2 h3)
      have HR := Aside0.mk (ct_ok T HV0.out)
      simp only [Cs.val] at HP
      obtain ⟨y0, y1, y2⟩ := HX.out
      go_enter Try.func77, Try.ntmps77
      go_wp2_with fail
      refine (HVC.out _ (Kd.C_alloc HC.out _)).mono ?_; rintro _ w1 ⟨rfl, hb1⟩
      have HB1 := Aside0.mk (bstep HB.out hb1)
      have HX1 := Aside0.mk (HX.out.below hb1)
      clear hb1 y0 y1 y2
      obtain ⟨y0, y1, y2⟩ := HX1.out
      go_wp2_with fail
      refine (HVB.out _ (Kd.C_below HL.out HB1.out)).mono ?_; rintro _ w2 ⟨rfl, hb2⟩
      have HB2 := Aside0.mk (bstep HB1.out hb2)
      have HX2 := Aside0.mk (HX1.out.below hb2)
      clear hb2 y0 y1 y2
      obtain ⟨y0, y1, y2⟩ := HX2.out
      go_wp2_with fail
      refine (HP.out _ (Kd.C_below HC.out HB2.out) (Kd.C_below HL.out HB2.out) (Kd.C_below HT.out HB2.out)).mono ?_; rintro _ w3 ⟨rfl, hb3⟩
      have HB3 := Aside0.mk (bstep HB2.out hb3)
      clear hb3 y0 y1 y2
      go_wp2_with fail
      go_ret2
      exact ⟨ret_bi HR.out.symm HV0.out.symm, HB3.out⟩
set_option maxHeartbeats 4000000 in
theorem specCheckTable_c (k : Cs) (A : Option Addr) (c : Nat) (A1 : Option Addr) (c1 : Nat) (L : List Bk) (A2 : Option Addr) (c2 : Nat) (T : List (List Int)) (hok : k.ok) (hoL : OkL L) (hoT : ∀ r, r ∈ T → OkI64 r) (hc1 : L.length ≤ c1) (w : World) (hC : (Kd.int .i16).C w A k.hs.length k.hs) (hL : kBk.C w A1 L.length L) (hT : kT.C w A2 T.length T) :
    Calls Try.prog 75 #[k.val A c, .slice A1 L.length c1, .slice A2 T.length c2] w (Ret w (.tuple #[.bool (ctV k L T), .int .i64 (eCL k L)])) := by
  have hm := Kd.C_max hC
  have hm1 := Kd.C_max hL
  have HA := Aside0.mk (box_asked k A c A1 c1 L hok hoL w hC hL)
  have HC := Aside0.mk hC
  have HL := Aside0.mk hL
  have HT := Aside0.mk hT
  have HOT := Aside0.mk hoT
  have HB := Aside0.mk (balloc (Below.refl w.heap.size w) (.cells #[.int .i16 k.wd, .int .i32 k.ld, .slice A k.hs.length c] 51))
  have HX := Aside0.mk (CsAt.box w k A c 51)
  clear hC hL hT hoT
  simp only [Cs.val]
  rcases eCL_split k L with ⟨hv, v1, v2⟩ | hv
  · have HR := Aside0.mk (ct_ok T hv)
    have HP := Aside0.mk (fun p W h0 h1 h2 h3 => l02Proof_c k A c p A1 c1 L A2 c2 T hok (vCase_bd v1) (FitOk.of v2) HOT.out hc1 W h0 h1 h2 h3)
    have HV0 := Aside0.mk hv
    rw [hv] at HA
    clear hv v1 v2
    go_enter Try.func75, Try.ntmps75
    go_wp2_with fail
    refine HA.out.mono ?_; rintro _ w1 ⟨rfl, hb1⟩
    have HB1 := Aside0.mk (bstep HB.out hb1)
    have HX1 := Aside0.mk (HX.out.below hb1)
    clear hb1
    go_wp2_with fail
    refine (HP.out _ _ HX1.out (Kd.C_below HC.out HB1.out) (Kd.C_below HL.out HB1.out) (Kd.C_below HT.out HB1.out)).mono ?_; rintro _ w3 ⟨rfl, hb3⟩
    have HB3 := Aside0.mk (bstep HB1.out hb3)
    clear hb3
    go_wp2_with fail
    go_ret2
    exact ⟨ret_bi HR.out.symm HV0.out.symm, HB3.out⟩
  · have HE := Aside0.mk (ct_bad T hv)
    rw [hv] at HA
    clear hv
    go_enter Try.func75, Try.ntmps75
    go_wp2_with fail
    refine HA.out.mono ?_; rintro _ w1 ⟨rfl, hb1⟩
    have HB1 := Aside0.mk (bstep HB.out hb1)
    have HX1 := Aside0.mk (HX.out.below hb1)
    clear hb1
    go_wp2_with fail
    go_ret2
    exact ⟨ret_bi HE.out.1.symm HE.out.2.symm, HB1.out⟩
set_option maxHeartbeats 4000000 in
theorem ProvedCost_c (k : Cs) (A : Option Addr) (c : Nat) (A1 : Option Addr) (c1 : Nat) (L : List Bk) (A2 : Option Addr) (c2 : Nat) (T : List (List Int)) (hok : k.ok) (hoL : OkL L) (hoT : ∀ r, r ∈ T → OkI64 r) (hc1 : L.length ≤ c1) (w : World) (hC : (Kd.int .i16).C w A k.hs.length k.hs) (hL : kBk.C w A1 L.length L) (hT : kT.C w A2 T.length T) :
    Calls Try.prog 82 #[k.val A c, .slice A1 L.length c1, .slice A2 T.length c2] w (Ret w (.tuple #[.int .i64 (pcV k L T), .int .i64 (pcE k L T)])) := by
  have hmT := Kd.C_max hT
  have HT := Aside0.mk hT
  have HOT := Aside0.mk hoT
  clear hT hoT
  have hm := Kd.C_max hC
  have hm1 := Kd.C_max hL
  have HC := Aside0.mk hC
  have HL := Aside0.mk hL
  have HVC := Aside0.mk (fun W h => ValidCase_c k A c W h)
  have HVB := Aside0.mk (fun W h => ValidBooks_c A1 c1 L W h)
  have HB := Aside0.mk (balloc (Below.refl w.heap.size w) (.cells #[.int .i16 k.wd, .int .i32 k.ld, .slice A k.hs.length c] 51))
  have HX := Aside0.mk (CsAt.box w k A c 51)
  clear hC hL
  simp only [Cs.val] at HVC ⊢
  cases v1 : vCase k
  · rw [v1] at HVC
    have HE := Aside0.mk (pc_bad T (eCL_1 (L := L) v1))
    clear v1
    obtain ⟨y0, y1, y2⟩ := HX.out
    go_enter Try.func82, Try.ntmps82
    go_wp2_with fail
    refine (HVC.out _ (Kd.C_alloc HC.out _)).mono ?_; rintro _ w1 ⟨rfl, hb1⟩
    have HB1 := Aside0.mk (bstep HB.out hb1)
    have HX1 := Aside0.mk (HX.out.below hb1)
    clear hb1 y0 y1 y2
    obtain ⟨y0, y1, y2⟩ := HX1.out
    go_wp2_with fail
    go_ret2
    exact ⟨ret_two HE.out.1.symm HE.out.2.symm, HB1.out⟩
  · rw [v1] at HVC
    cases v2 : vBooks L
    · rw [v2] at HVB
      have HE := Aside0.mk (pc_bad T (eCL_2 (k := k) v2))
      clear v1 v2
      obtain ⟨y0, y1, y2⟩ := HX.out
      go_enter Try.func82, Try.ntmps82
      go_wp2_with fail
      refine (HVC.out _ (Kd.C_alloc HC.out _)).mono ?_; rintro _ w1 ⟨rfl, hb1⟩
      have HB1 := Aside0.mk (bstep HB.out hb1)
      have HX1 := Aside0.mk (HX.out.below hb1)
      clear hb1 y0 y1 y2
      obtain ⟨y0, y1, y2⟩ := HX1.out
      go_wp2_with fail
      refine (HVB.out _ (Kd.C_below HL.out HB1.out)).mono ?_; rintro _ w2 ⟨rfl, hb2⟩
      have HB2 := Aside0.mk (bstep HB1.out hb2)
      have HX2 := Aside0.mk (HX1.out.below hb2)
      clear hb2 y0 y1 y2
      obtain ⟨y0, y1, y2⟩ := HX2.out
      go_wp2_with fail
      go_ret2
      exact ⟨ret_two HE.out.1.symm HE.out.2.symm, HB2.out⟩
    · rw [v2] at HVB
      have HV0 := Aside0.mk (eCL_0 v1 v2)
      have HFO := Aside0.mk (FitOk.of v2)
      have HVK := Aside0.mk (vCase_bd v1)
      clear v1 v2
      have HP := Aside0.mk (fun W h1 h2 h3 => isProof_c k A c A1 c1 L A2 c2 T hok hoL HVK.out HFO.out HOT.out hc1 W h1 h2 h3)
      simp only [Cs.val] at HP
      cases hp : prf k L T
      · have HR := Aside0.mk (pc_no HV0.out hp)
        rw [hp] at HP
        clear hp
        obtain ⟨y0, y1, y2⟩ := HX.out
        go_enter Try.func82, Try.ntmps82
        go_wp2_with fail
        refine (HVC.out _ (Kd.C_alloc HC.out _)).mono ?_; rintro _ w1 ⟨rfl, hb1⟩
        have HB1 := Aside0.mk (bstep HB.out hb1)
        have HX1 := Aside0.mk (HX.out.below hb1)
        clear hb1 y0 y1 y2
        obtain ⟨y0, y1, y2⟩ := HX1.out
        go_wp2_with fail
        refine (HVB.out _ (Kd.C_below HL.out HB1.out)).mono ?_; rintro _ w2 ⟨rfl, hb2⟩
        have HB2 := Aside0.mk (bstep HB1.out hb2)
        have HX2 := Aside0.mk (HX1.out.below hb2)
        clear hb2 y0 y1 y2
        obtain ⟨y0, y1, y2⟩ := HX2.out
        go_wp2_with fail
        refine (HP.out _ (Kd.C_below HC.out HB2.out) (Kd.C_below HL.out HB2.out) (Kd.C_below HT.out HB2.out)).mono ?_; rintro _ w3 ⟨rfl, hb3⟩
        have HB3 := Aside0.mk (bstep HB2.out hb3)
        clear hb3 y0 y1 y2
        go_wp2_with fail
        go_ret2
        exact ⟨ret_two HR.out.1.symm HR.out.2.symm, HB3.out⟩
      · have HPP := Aside0.mk (prf_P hp)
        have HN := Aside0.mk (fun h => pc_none HV0.out hp h)
        have HY := Aside0.mk (fun h => pc_ok HV0.out hp h)
        rw [hp] at HP
        clear hp
        obtain ⟨y0, y1, y2⟩ := HX.out
        go_enter Try.func82, Try.ntmps82
        go_wp2_with fail
        refine (HVC.out _ (Kd.C_alloc HC.out _)).mono ?_; rintro _ w1 ⟨rfl, hb1⟩
        have HB1 := Aside0.mk (bstep HB.out hb1)
        have HX1 := Aside0.mk (HX.out.below hb1)
        clear hb1 y0 y1 y2
        obtain ⟨y0, y1, y2⟩ := HX1.out
        go_wp2_with fail
        refine (HVB.out _ (Kd.C_below HL.out HB1.out)).mono ?_; rintro _ w2 ⟨rfl, hb2⟩
        have HB2 := Aside0.mk (bstep HB1.out hb2)
        have HX2 := Aside0.mk (HX1.out.below hb2)
        clear hb2 y0 y1 y2
        obtain ⟨y0, y1, y2⟩ := HX2.out
        go_wp2_with fail
        refine (HP.out _ (Kd.C_below HC.out HB2.out) (Kd.C_below HL.out HB2.out) (Kd.C_below HT.out HB2.out)).mono ?_; rintro _ w3 ⟨rfl, hb3⟩
        have HB3 := Aside0.mk (bstep HB2.out hb3)
        clear hb3 y0 y1 y2
        have htl : 0 < T.length := by have := HPP.out.len; omega
        obtain ⟨ad, r, A', c', rfl, hbr, hxr, hc', hCr⟩ := at_row (Kd.C_below HT.out HB3.out) 0 htl
        obtain ⟨a1, x, rfl, hbx, hxx⟩ := at_int' hCr.out 0 (by have := HPP.out.rows r (mem_of hbr.out); omega)
        rw [tb_at hbr.out hbx.out] at HN HY
        have i0 : (0 : Int) < (T.length : Int) := by omega
        have i1 : (0 : Int) < (r.length : Int) := by have := HPP.out.rows r (mem_of hbr.out); omega
        have ad0 : ∀ q : Addr, q.add 0 = q := fun q => by cases q; simp [Addr.add]
        rw [ad0] at hxr hxx
        clear hCr ad0
        by_cases hx : x = -1
        · have hb0 : (x == -1) = true := by simp [hx]
          have HE := Aside0.mk (HN.out hx)
          clear hx
          go_wp2_with fail
          go_ret2
          exact ⟨ret_two HE.out.1.symm HE.out.2.symm, HB3.out⟩
        · have hb0 : (x == -1) = false := by simpa using hx
          have HE := Aside0.mk (HY.out hx)
          clear hx
          go_wp2_with fail
          go_ret2
          exact ⟨ret_two HE.out.1.symm HE.out.2.symm, HB3.out⟩
set_option maxHeartbeats 4000000 in
theorem specProvedCost_c (k : Cs) (A : Option Addr) (c : Nat) (A1 : Option Addr) (c1 : Nat) (L : List Bk) (A2 : Option Addr) (c2 : Nat) (T : List (List Int)) (hok : k.ok) (hoL : OkL L) (hoT : ∀ r, r ∈ T → OkI64 r) (hc1 : L.length ≤ c1) (w : World) (hC : (Kd.int .i16).C w A k.hs.length k.hs) (hL : kBk.C w A1 L.length L) (hT : kT.C w A2 T.length T) :
    Calls Try.prog 81 #[k.val A c, .slice A1 L.length c1, .slice A2 T.length c2] w (Ret w (.tuple #[.int .i64 (pcV k L T), .int .i64 (pcE k L T)])) := by
  have hmT := Kd.C_max hT
  have hm := Kd.C_max hC
  have hm1 := Kd.C_max hL
  have HA := Aside0.mk (box_asked k A c A1 c1 L hok hoL w hC hL)
  have HC := Aside0.mk hC
  have HL := Aside0.mk hL
  have HT := Aside0.mk hT
  have HOT := Aside0.mk hoT
  have HB := Aside0.mk (balloc (Below.refl w.heap.size w) (.cells #[.int .i16 k.wd, .int .i32 k.ld, .slice A k.hs.length c] 51))
  have HX := Aside0.mk (CsAt.box w k A c 51)
  clear hC hL hT hoT
  simp only [Cs.val]
  rcases eCL_split k L with ⟨hv, v1, v2⟩ | hv
  · have HP := Aside0.mk (fun p W h0 h1 h2 h3 => l02Proof_c k A c p A1 c1 L A2 c2 T hok (vCase_bd v1) (FitOk.of v2) HOT.out hc1 W h0 h1 h2 h3)
    have HV0 := Aside0.mk hv
    rw [hv] at HA
    clear hv v1 v2
    cases hp : prf k L T
    · have HR := Aside0.mk (pc_no HV0.out hp)
      rw [hp] at HP
      clear hp
      go_enter Try.func81, Try.ntmps81
      go_wp2_with fail
      refine HA.out.mono ?_; rintro _ w1 ⟨rfl, hb1⟩
      have HB1 := Aside0.mk (bstep HB.out hb1)
      have HX1 := Aside0.mk (HX.out.below hb1)
      clear hb1
      go_wp2_with fail
      refine (HP.out _ _ HX1.out (Kd.C_below HC.out HB1.out) (Kd.C_below HL.out HB1.out) (Kd.C_below HT.out HB1.out)).mono ?_; rintro _ w3 ⟨rfl, hb3⟩
      have HB3 := Aside0.mk (bstep HB1.out hb3)
      clear hb3
      go_wp2_with fail
      go_ret2
      exact ⟨ret_two HR.out.1.symm HR.out.2.symm, HB3.out⟩
    · have HPP := Aside0.mk (prf_P hp)
      have HN := Aside0.mk (fun h => pc_none HV0.out hp h)
      have HY := Aside0.mk (fun h => pc_ok HV0.out hp h)
      rw [hp] at HP
      clear hp
      go_enter Try.func81, Try.ntmps81
      go_wp2_with fail
      refine HA.out.mono ?_; rintro _ w1 ⟨rfl, hb1⟩
      have HB1 := Aside0.mk (bstep HB.out hb1)
      have HX1 := Aside0.mk (HX.out.below hb1)
      clear hb1
      go_wp2_with fail
      refine (HP.out _ _ HX1.out (Kd.C_below HC.out HB1.out) (Kd.C_below HL.out HB1.out) (Kd.C_below HT.out HB1.out)).mono ?_; rintro _ w3 ⟨rfl, hb3⟩
      have HB3 := Aside0.mk (bstep HB1.out hb3)
      clear hb3
      have htl : 0 < T.length := by have := HPP.out.len; omega
      obtain ⟨ad, r, A', c', rfl, hbr, hxr, hc', hCr⟩ := at_row (Kd.C_below HT.out HB3.out) 0 htl
      obtain ⟨a1, x, rfl, hbx, hxx⟩ := at_int' hCr.out 0 (by have := HPP.out.rows r (mem_of hbr.out); omega)
      rw [tb_at hbr.out hbx.out] at HN HY
      have i0 : (0 : Int) < (T.length : Int) := by omega
      have i1 : (0 : Int) < (r.length : Int) := by have := HPP.out.rows r (mem_of hbr.out); omega
      have ad0 : ∀ q : Addr, q.add 0 = q := fun q => by cases q; simp [Addr.add]
      rw [ad0] at hxr hxx
      clear hCr ad0
      by_cases hx : x = -1
      · have hb0 : x < 0 := by omega
        have HE := Aside0.mk (HN.out hx)
        clear hx
        go_wp2_with fail
        go_ret2
        exact ⟨ret_two HE.out.1.symm HE.out.2.symm, HB3.out⟩
      · have hb0 : ¬ x < 0 := by have := HPP.out.low r (mem_of hbr.out) x (mem_of hbx.out); omega
        have HE := Aside0.mk (HY.out hx)
        clear hx
        go_wp2_with fail
        go_ret2
        exact ⟨ret_two HE.out.1.symm HE.out.2.symm, HB3.out⟩
  · have HE := Aside0.mk (pc_bad T hv)
    rw [hv] at HA
    clear hv
    go_enter Try.func81, Try.ntmps81
    go_wp2_with fail
    refine HA.out.mono ?_; rintro _ w1 ⟨rfl, hb1⟩
    have HB1 := Aside0.mk (bstep HB.out hb1)
    have HX1 := Aside0.mk (HX.out.below hb1)
    clear hb1
    go_wp2_with fail
    go_ret2
    exact ⟨ret_two HE.out.1.symm HE.out.2.symm, HB1.out⟩
end Go.Proofs.Ytdippdkneeocfaa
