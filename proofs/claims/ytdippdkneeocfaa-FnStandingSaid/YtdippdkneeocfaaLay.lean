/- Layouts: FitsOn, the first bad shelf; the program's and the reference's. -/
import Derived.Test.YtdippdkneeocfaaFit
import Derived.Test.YtdippdkneeocfaaOver
import Derived.Test.YtdippdkneeocfaaMovA
import Derived.StillTailTactics
import Derived.Still
import Derived.Deep.QuietTactic
import Derived.BigQuiet
namespace Go.Proofs.Ytdippdkneeocfaa
open Go.RowKit Go.Proofs.YtdippdkneeocfaaW.PrintWords Go.Proofs.YtdippdkneeocfaaW.PrintMore
set_option linter.unusedVariables false
set_option linter.unusedSimpArgs false
set_option maxRecDepth 100000

/-- The code of a case and a list. -/
def eCL (k : Cs) (L : List Bk) : Int := if (vCase k && vBooks L) = true then 0 else 1
theorem eCL_1 {k : Cs} {L : List Bk} (h : vCase k = false) : eCL k L = 1 := by unfold eCL; rw [h]; rfl
theorem eCL_2 {k : Cs} {L : List Bk} (h : vBooks L = false) : eCL k L = 1 := by unfold eCL; rw [h, Bool.and_false]; rfl
theorem eCL_0 {k : Cs} {L : List Bk} (h : vCase k = true) (h' : vBooks L = true) : eCL k L = 0 := by unfold eCL; rw [h, h']; rfl
structure CsBd (k : Cs) : Prop where
  wd : 1 ≤ k.wd ∧ k.wd ≤ 2000
  ld : 1 ≤ k.ld ∧ k.ld ≤ 200000
  n : 1 ≤ k.hs.length ∧ k.hs.length ≤ 12
  h : ∀ s, 0 ≤ k.h s
theorem vCase_bd {k : Cs} (h : vCase k = true) : CsBd k := by
  unfold vCase at h
  simp only [Bool.and_eq_true, inR_iff, List.all_eq_true] at h
  obtain ⟨h1, h2, h3, h4⟩ := h
  refine ⟨h1, h2, by omega, fun s => ?_⟩
  unfold Cs.h
  rw [List.getD_eq_getElem?_getD]
  cases e : k.hs[s]? with
  | none => exact Int.le_refl _
  | some x => have := h4 x (mem_of e); show 0 ≤ x; omega
theorem l02Asked_c (k : Cs) (A : Option Addr) (c : Nat) (p : Addr) (A1 : Option Addr) (c1 : Nat) (L : List Bk) (hok : k.ok) (hoL : OkL L) (w : World) (hp : CsAt w p k A c) (hC : (Kd.int .i16).C w A k.hs.length k.hs) (hL : kBk.C w A1 L.length L) :
    Calls Try.prog 126 #[.pointer (some p), .slice A1 L.length c1] w (Ret w (.int .i64 (eCL k L))) := by
  have HO := Aside0.mk (l02Ok_c k A c hok p w hp hC)
  have HB := Aside0.mk (l01Ok_c A1 c1 L hoL w hL)
  clear hC hL hp
  cases v1 : vCase k
  · have HE := Aside0.mk (eCL_1 (L := L) v1)
    rw [v1] at HO
    clear v1
    go_enter Try.func126, Try.ntmps126
    go_wp2_with fail
    refine HO.out.mono ?_; rintro _ w1 ⟨rfl, rfl⟩
    go_wp2_with fail
    go_ret
    exact ⟨ret_int HE.out.symm, Below.refl _ _⟩
  · rw [v1] at HO
    cases v2 : vBooks L
    · have HE := Aside0.mk (eCL_2 (k := k) v2)
      rw [v2] at HB
      clear v1 v2
      go_enter Try.func126, Try.ntmps126
      go_wp2_with fail
      refine HO.out.mono ?_; rintro _ w1 ⟨rfl, rfl⟩
      go_wp2_with fail
      refine HB.out.mono ?_; rintro _ w1 ⟨rfl, hb1⟩
      go_wp2_with fail
      go_ret
      exact ⟨ret_int HE.out.symm, hb1⟩
    · have HE := Aside0.mk (eCL_0 v1 v2)
      rw [v2] at HB
      clear v1 v2
      go_enter Try.func126, Try.ntmps126
      go_wp2_with fail
      refine HO.out.mono ?_; rintro _ w1 ⟨rfl, rfl⟩
      go_wp2_with fail
      refine HB.out.mono ?_; rintro _ w1 ⟨rfl, hb1⟩
      go_wp2_with fail
      go_ret
      exact ⟨ret_int HE.out.symm, hb1⟩
def foE (k : Cs) (n : Int) (L : List Bk) : Int := if eCL k L = 0 then (if inR n 0 ((k.hs.length : Int) - 1) = true then 0 else 2) else eCL k L
def foV (k : Cs) (n : Int) (L : List Bk) : Bool := decide (foE k n L = 0) && fitL k n.toNat L
theorem fo_bad {k : Cs} {n : Int} {L : List Bk} (h : eCL k L = 1) : foV k n L = false ∧ foE k n L = 1 := by
  have h1 : foE k n L = 1 := by unfold foE; rw [h]; rfl
  exact ⟨by unfold foV; rw [h1]; rfl, h1⟩
theorem fo_out {k : Cs} {n : Int} {L : List Bk} (h : eCL k L = 0) (h2 : inR n 0 ((k.hs.length : Int) - 1) = false) : foV k n L = false ∧ foE k n L = 2 := by
  have h1 : foE k n L = 2 := by unfold foE; rw [if_pos h, h2]; rfl
  exact ⟨by unfold foV; rw [h1]; rfl, h1⟩
theorem fo_ok {k : Cs} {n : Int} {L : List Bk} (h : eCL k L = 0) (h2 : inR n 0 ((k.hs.length : Int) - 1) = true) : foV k n L = fitL k n.toNat L ∧ foE k n L = 0 := by
  have h1 : foE k n L = 0 := by unfold foE; rw [if_pos h, h2]; rfl
  exact ⟨by unfold foV; rw [h1]; rfl, h1⟩
theorem ret_bi {a c : Bool} {b d : Int} (h : a = c) (k : b = d) : Ending.returned (.tuple #[.bool a, .int .i64 b]) = .returned (.tuple #[.bool c, .int .i64 d]) := by rw [h, k]
theorem wrap_pred (n : Nat) (h : n ≤ 9223372036854775807) : IntKind.i64.wrap ((n : Int) - 1) = (n : Int) - 1 := by simp only [IntKind.wrap, IntKind.bits, IntKind.signed, Bool.true_and, decide_eq_true_eq, ge_iff_le]; split <;> omega
set_option maxHeartbeats 2000000 in
theorem FitsOn_c (k : Cs) (A : Option Addr) (c : Nat) (n : Int) (A1 : Option Addr) (c1 : Nat) (L : List Bk) (hok : k.ok) (hoL : OkL L) (w : World) (hC : (Kd.int .i16).C w A k.hs.length k.hs) (hL : kBk.C w A1 L.length L) :
    Calls Try.prog 54 #[k.val A c, .int .i64 n, .slice A1 L.length c1] w (Ret w (.tuple #[.bool (foV k n L), .int .i64 (foE k n L)])) := by
  have hm := Kd.C_max hC
  have hm1 := Kd.C_max hL
  have HC := Aside0.mk hC
  have HL := Aside0.mk hL
  have HVC := Aside0.mk (fun W h => ValidCase_c k A c W h)
  have HVB := Aside0.mk (fun W h => ValidBooks_c A1 c1 L W h)
  have HB := Aside0.mk (balloc (Below.refl w.heap.size w) (.cells #[.int .i16 k.wd, .int .i32 k.ld, .slice A k.hs.length c] 51))
  have HX := Aside0.mk (CsAt.box w k A c 51)
  clear hC hL
  simp only [Cs.val] at HVC ⊢
  have iw := wrap_pred _ hm
  have HW := Aside0.mk (fun W => within64_c n 0 ((k.hs.length : Int) - 1) W)
  cases v1 : vCase k
  · rw [v1] at HVC
    have HE := Aside0.mk (fo_bad (n := n) (eCL_1 (L := L) v1))
    clear v1
    obtain ⟨y0, y1, y2⟩ := HX.out
    go_enter Try.func54, Try.ntmps54
    go_wp2_with fail
    refine (HVC.out _ (Kd.C_alloc HC.out _)).mono ?_; rintro _ w1 ⟨rfl, hb1⟩
    have HB1 := Aside0.mk (bstep HB.out hb1)
    have HX1 := Aside0.mk (HX.out.below hb1)
    clear hb1 y0 y1 y2
    obtain ⟨y0, y1, y2⟩ := HX1.out
    go_wp2_with fail
    go_ret2
    exact ⟨ret_bi HE.out.1.symm HE.out.2.symm, HB1.out⟩
  · rw [v1] at HVC
    cases v2 : vBooks L
    · rw [v2] at HVB
      have HE := Aside0.mk (fo_bad (n := n) (eCL_2 (k := k) v2))
      clear v1 v2
      obtain ⟨y0, y1, y2⟩ := HX.out
      go_enter Try.func54, Try.ntmps54
      go_wp2_with fail
      refine (HVC.out _ (Kd.C_alloc HC.out _)).mono ?_; rintro _ w1 ⟨rfl, hb1⟩
      have HB1 := Aside0.mk (bstep HB.out hb1)
      have HX1 := Aside0.mk (HX.out.below hb1)
      clear hb1 y0 y1 y2
      obtain ⟨y0, y1, y2⟩ := HX1.out
      go_wp2_with fail
      refine (HVB.out _ (Kd.C_below HL.out HB1.out)).mono ?_; rintro _ w2 ⟨rfl, hb2⟩
      have HB2 := Aside0.mk (bstep HB1.out hb2)
      have HX2 := Aside0.mk (HX1.out.below hb2)
      clear hb2 y0 y1 y2
      obtain ⟨y0, y1, y2⟩ := HX2.out
      go_wp2_with fail
      go_ret2
      exact ⟨ret_bi HE.out.1.symm HE.out.2.symm, HB2.out⟩
    · rw [v2] at HVB
      have HV0 := Aside0.mk (eCL_0 v1 v2)
      have HFO := Aside0.mk (FitOk.of v2)
      have HVK := Aside0.mk (vCase_bd v1)
      clear v1 v2
      cases v3 : inR n 0 ((k.hs.length : Int) - 1)
      · have HE := Aside0.mk (fo_out HV0.out v3)
        rw [v3] at HW
        clear v3
        obtain ⟨y0, y1, y2⟩ := HX.out
        go_enter Try.func54, Try.ntmps54
        go_wp2_with fail
        refine (HVC.out _ (Kd.C_alloc HC.out _)).mono ?_; rintro _ w1 ⟨rfl, hb1⟩
        have HB1 := Aside0.mk (bstep HB.out hb1)
        have HX1 := Aside0.mk (HX.out.below hb1)
        clear hb1 y0 y1 y2
        obtain ⟨y0, y1, y2⟩ := HX1.out
        go_wp2_with fail
        refine (HVB.out _ (Kd.C_below HL.out HB1.out)).mono ?_; rintro _ w2 ⟨rfl, hb2⟩
        have HB2 := Aside0.mk (bstep HB1.out hb2)
        have HX2 := Aside0.mk (HX1.out.below hb2)
        clear hb2 y0 y1 y2
        obtain ⟨y0, y1, y2⟩ := HX2.out
        go_wp2_with fail
        refine (HW.out _).mono ?_; rintro _ w3 ⟨rfl, rfl⟩
        go_wp2_with fail
        go_ret2
        exact ⟨ret_bi HE.out.1.symm HE.out.2.symm, HB2.out⟩
      · have HE := Aside0.mk (fo_ok HV0.out v3)
        rw [v3] at HW
        obtain ⟨n1, n2⟩ := inR_iff.1 v3
        obtain ⟨s, rfl⟩ : ∃ s : Nat, n = s := ⟨n.toNat, by omega⟩
        rw [Int.toNat_natCast] at HE
        have HF := Aside0.mk (fun W h1 h2 => fits_c k A c s A1 c1 L hok hoL (by omega) W h1 h2)
        simp only [Cs.val] at HF
        clear v3
        obtain ⟨y0, y1, y2⟩ := HX.out
        go_enter Try.func54, Try.ntmps54
        go_wp2_with fail
        refine (HVC.out _ (Kd.C_alloc HC.out _)).mono ?_; rintro _ w1 ⟨rfl, hb1⟩
        have HB1 := Aside0.mk (bstep HB.out hb1)
        have HX1 := Aside0.mk (HX.out.below hb1)
        clear hb1 y0 y1 y2
        obtain ⟨y0, y1, y2⟩ := HX1.out
        go_wp2_with fail
        refine (HVB.out _ (Kd.C_below HL.out HB1.out)).mono ?_; rintro _ w2 ⟨rfl, hb2⟩
        have HB2 := Aside0.mk (bstep HB1.out hb2)
        have HX2 := Aside0.mk (HX1.out.below hb2)
        clear hb2 y0 y1 y2
        obtain ⟨y0, y1, y2⟩ := HX2.out
        go_wp2_with fail
        refine (HW.out _).mono ?_; rintro _ w3 ⟨rfl, rfl⟩
        go_wp2_with fail
        refine (HF.out _ (Kd.C_below HC.out HB2.out) (Kd.C_below HL.out HB2.out)).mono ?_; rintro _ w3 ⟨rfl, hb3⟩
        have HB3 := Aside0.mk (bstep HB2.out hb3)
        clear hb3
        go_wp2_with fail
        go_ret2
        exact ⟨ret_bi HE.out.1.symm HE.out.2.symm, HB3.out⟩
set_option maxHeartbeats 2000000 in
theorem specFitsOn_c (k : Cs) (A : Option Addr) (c : Nat) (n : Int) (A1 : Option Addr) (c1 : Nat) (L : List Bk) (hok : k.ok) (hoL : OkL L) (w : World) (hC : (Kd.int .i16).C w A k.hs.length k.hs) (hL : kBk.C w A1 L.length L) :
    Calls Try.prog 53 #[k.val A c, .int .i64 n, .slice A1 L.length c1] w (Ret w (.tuple #[.bool (foV k n L), .int .i64 (foE k n L)])) := by
  have hm := Kd.C_max hC
  have HB := Aside0.mk (balloc (Below.refl w.heap.size w) (.cells #[.int .i16 k.wd, .int .i32 k.ld, .slice A k.hs.length c] 51))
  have HX := Aside0.mk (CsAt.box w k A c 51)
  have HA := Aside0.mk (l02Asked_c k A c _ A1 c1 L hok hoL _ HX.out (Kd.C_alloc hC _) (Kd.C_alloc hL _))
  have HC := Aside0.mk hC
  have HL := Aside0.mk hL
  have iw := wrap_pred _ hm
  have HW := Aside0.mk (fun W => l00In_c n 0 ((k.hs.length : Int) - 1) W)
  clear hC hL
  simp only [Cs.val]
  by_cases hv : eCL k L = 0
  · have hvb : vCase k = true ∧ vBooks L = true := by
      unfold eCL at hv
      split at hv
      · rename_i h; simpa using h
      · cases hv
    have HFO := Aside0.mk (FitOk.of hvb.2)
    have HVK := Aside0.mk (vCase_bd hvb.1)
    clear hvb
    rw [hv] at HA
    cases v3 : inR n 0 ((k.hs.length : Int) - 1)
    · have HE := Aside0.mk (fo_out hv v3)
      rw [v3] at HW
      clear v3 hv
      go_enter Try.func53, Try.ntmps53
      go_wp2_with fail
      refine HA.out.mono ?_; rintro _ w1 ⟨rfl, hb1⟩
      have HB1 := Aside0.mk (bstep HB.out hb1)
      obtain ⟨y0, y1, y2⟩ := HX.out.below hb1
      clear hb1
      go_wp2_with fail
      refine (HW.out _).mono ?_; rintro _ w3 ⟨rfl, rfl⟩
      go_wp2_with fail
      go_ret2
      exact ⟨ret_bi HE.out.1.symm HE.out.2.symm, HB1.out⟩
    · have HE := Aside0.mk (fo_ok hv v3)
      rw [v3] at HW
      obtain ⟨n1, n2⟩ := inR_iff.1 v3
      obtain ⟨s, rfl⟩ : ∃ s : Nat, n = s := ⟨n.toNat, by omega⟩
      rw [Int.toNat_natCast, ← free_iff] at HE
      have HF := Aside0.mk (fun p W h1 h2 h3 => l02Free_c k A c s p A1 c1 L hok HFO.out (by omega) (HVK.out.h s) W h1 h2 h3)
      clear v3 hv
      go_enter Try.func53, Try.ntmps53
      go_wp2_with fail
      refine HA.out.mono ?_; rintro _ w1 ⟨rfl, hb1⟩
      have HB1 := Aside0.mk (bstep HB.out hb1)
      have HX1 := Aside0.mk (HX.out.below hb1)
      obtain ⟨y0, y1, y2⟩ := HX1.out
      clear hb1
      go_wp2_with fail
      refine (HW.out _).mono ?_; rintro _ w3 ⟨rfl, rfl⟩
      go_wp2_with fail
      refine (HF.out _ _ HX1.out (Kd.C_below HC.out HB1.out) (Kd.C_below HL.out HB1.out)).mono ?_; rintro _ w3 ⟨rfl, hb3⟩
      have HB3 := Aside0.mk (bstep HB1.out hb3)
      clear hb3
      go_wp2_with fail
      go_ret2
      exact ⟨ret_bi HE.out.1.symm HE.out.2.symm, HB3.out⟩
  · have h1 : eCL k L = 1 := by unfold eCL at hv ⊢; split at hv; exact absurd rfl hv; rename_i h; rw [if_neg h]
    have HE := Aside0.mk (fo_bad (n := n) h1)
    rw [h1] at HA
    clear hv h1
    go_enter Try.func53, Try.ntmps53
    go_wp2_with fail
    refine HA.out.mono ?_; rintro _ w1 ⟨rfl, hb1⟩
    have HB1 := Aside0.mk (bstep HB.out hb1)
    clear hb1
    go_wp2_with fail
    go_ret2
    exact ⟨ret_bi HE.out.1.symm HE.out.2.symm, HB1.out⟩
end Go.Proofs.Ytdippdkneeocfaa
