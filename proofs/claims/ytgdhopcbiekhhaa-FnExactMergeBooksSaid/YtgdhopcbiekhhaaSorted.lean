/- Rows of books in the usual order: the program's isSorted. -/
import Derived.Test.YtgdhopcbiekhhaaOut
import Derived.StillTailTactics
import Derived.Still
namespace Go.Proofs.Ytgdhopcbiekhhaa
open Go.RowKit Go.Proofs.YtgdhopcbiekhhaaW.PrintWords Go.Proofs.YtgdhopcbiekhhaaW.PrintMore
set_option linter.unusedVariables false
set_option linter.unusedSimpArgs false
set_option maxRecDepth 100000

theorem outFrom_neg (L : List Bk) : ∀ (g k : Nat), outFrom L k g < 0 ↔ ∀ j, k ≤ j → j < k + g → outAt L j = false := by
  intro g
  induction g with
  | zero => intro k; simp only [outFrom]; exact ⟨fun _ j h1 h2 => absurd h2 (by omega), fun _ => by decide⟩
  | succ g ih =>
    intro k
    rw [outFrom]
    cases h : outAt L k with
    | true =>
      rw [if_pos rfl]
      refine ⟨fun h' => absurd h' (by omega), fun h' => ?_⟩
      rw [h' k (by omega) (by omega)] at h
      cases h
    | false =>
      rw [if_neg (by decide), ih (k + 1)]
      refine ⟨fun h' j h1 h2 => ?_, fun h' j h1 h2 => h' j (by omega) (by omega)⟩
      by_cases e : j = k
      · rw [e]; exact h
      · exact h' j (by omega) (by omega)
def isS (L : List Bk) : Bool := decide (outOf L < 0)
theorem isS_iff (L : List Bk) : isS L = true ↔ ∀ j, 1 ≤ j → j < L.length → outAt L j = false := by
  unfold isS outOf
  rw [decide_eq_true_eq, outFrom_neg]
  exact ⟨fun h j h1 h2 => h j h1 (by omega), fun h j h1 h2 => h j h1 (by omega)⟩
set_option maxHeartbeats 4000000 in
theorem isSortedFunc_c (A : Option Addr) (c : Nat) (L : List Bk) (f : FuncId) (cap : Array Value) (w : World) (hL : kBk.C w A L.length L) (hfn : Fun Try.prog f)
    (hf : ∀ W x y, Calls Try.prog f (#[x.val, y.val] ++ cap) W (Ret W (.int .i64 (cmpU x y)))) :
    Calls Try.prog 144 #[.slice A L.length c, .func (.func f) #[] cap] w (Ret w (.bool (isS L))) := by
  have hm := Kd.C_max hL
  have HL := Aside0.mk hL
  have HF := Aside0.mk hf
  have hcf := hfn.run
  clear hL hf hfn
  simp only [Bk.val] at HF
  go_enter Try.func144, Try.ntmps144
  go_wp2
  have iw : IntKind.i64.wrap ((L.length : Int) - 1) = (L.length : Int) - 1 := by simp only [IntKind.wrap, IntKind.bits, IntKind.signed, Bool.true_and, decide_eq_true_eq, ge_iff_le]; split <;> omega
  go_loopg [5] L.length (fun gk v wr => ∃ v0 : Int, v = .int .i64 v0 ∧ Aside0 (v0 = (gk : Int) - 1 ∧ gk ≤ L.length ∧ ∀ j, gk ≤ j → j < L.length → outAt L j = false) ∧ Aside0 (Below w.heap.size w wr))
  case atStart => exact ⟨(L.length : Int) - 1, by first | rw [iw] | rfl, ⟨rfl, by omega, fun j h1 h2 => absurd h2 (by omega)⟩, ⟨Below.refl _ _⟩⟩
  case round =>
    clear iw
    obtain ⟨v0, rfl, hp, hb⟩ := hrel
    by_cases hlt : 2 ≤ gk
    · obtain ⟨k, hgk⟩ : ∃ k, gk = k + 2 := ⟨gk - 2, by omega⟩
      have hv : v0 = (k : Int) + 1 := by have := hp.out.1; omega
      have hle : k + 1 < L.length := by have := hp.out.2.1; omega
      have HG := Aside0.mk hgk
      clear hgk
      subst hv
      obtain ⟨ad, b, rfl, hbk, x0, x1, x2, x3, x4, x5, x6, x7⟩ := at_bk (Kd.C_below HL.out hb.out) (k + 1) hle
      obtain ⟨ad', b', e', hbk', y0, y1, y2, y3, y4, y5, y6, y7⟩ := at_bk (Kd.C_below HL.out hb.out) k (by omega)
      injection e' with e'
      subst e'
      have HA := Aside0.mk (outAt_of hbk.out hbk'.out)
      have HFF := Aside0.mk (fun W => HF.out W b b')
      have i0 : (0 : Int) ≤ (k : Int) := by omega
      have i1 : (k : Int) + 1 < (L.length : Int) := by omega
      have i2 : (k : Int) < (L.length : Int) := by omega
      have i3 : ((k : Int) + 1).toNat = k + 1 := by omega
      have i4 : (0 : Int) ≤ (k : Int) + 1 := by omega
      have i5 : (0 : Int) < (k : Int) + 1 := by omega
      have iw : IntKind.i64.wrap (k : Int) = (k : Int) := by simp only [IntKind.wrap, IntKind.bits, IntKind.signed, Bool.true_and, decide_eq_true_eq, ge_iff_le]; split <;> omega
      go_wp2_with fail
      go_still_tail 10, (by kernel_rfl)
      go_wp2_with fail
      refine (HFF.out _).mono ?_; rintro _ w1 ⟨rfl, hb1⟩
      have HB1 := Aside0.mk (bstep (bdrew hb.out) hb1)
      clear hb1 HFF x0 x1 x2 x3 x4 x5 x6 x7 y0 y1 y2 y3 y4 y5 y6 y7
      by_cases ho : cmpU b b' < 0
      · have HR := Aside0.mk (show isS L = false from Bool.eq_false_iff.2 fun h => by
          have := (isS_iff L).1 h (k + 1) (by omega) hle
          rw [HA.out] at this; simp at this; omega)
        go_wp2
        go_ret
        exact ⟨ret_bool HR.out.symm, HB1.out⟩
      · have HR := Aside0.mk (show ∀ j, k + 1 ≤ j → j < L.length → outAt L j = false from fun j h1 h2 => by
          by_cases e : j = k + 1
          · rw [e, HA.out]; simpa using ho
          · exact hp.out.2.2 j (by have := HG.out; omega) h2)
        go_wp2
        go_roundg (gk - 1)
        case measure => have := HG.out; omega
        case rel => exact ⟨(k : Int), by go_num, ⟨by have := HG.out; omega, by have := HG.out; omega, fun j h1 h2 => HR.out j (by have := HG.out; omega) h2⟩, HB1⟩
    · have HR := Aside0.mk (show isS L = true from (isS_iff L).2 fun j h1 h2 => hp.out.2.2 j (by omega) h2)
      have i3 : v0 ≤ 0 := by have := hp.out.1; omega
      go_wp2
      go_ret
      exact ⟨ret_bool HR.out.symm, hb.out⟩
theorem isSorted_c (A : Option Addr) (c : Nat) (L : List Bk) (w : World) (hL : kBk.C w A L.length L) : Calls Try.prog 110 #[.slice A L.length c] w (Ret w (.bool (isS L))) := by
  have HX := Aside0.mk (isSortedFunc_c A c L 104 #[] w hL ⟨_, Try.func104, rfl, rfl⟩ (fun W x y => compare_c x y W))
  clear hL
  go_enter Try.func110, Try.ntmps110
  go_wp2_with fail
  refine HX.out.mono ?_; rintro _ w1 ⟨rfl, hb1⟩
  go_wp2_with fail
  go_ret
  exact ⟨rfl, hb1⟩
def eV (L : List Bk) : Int := if vBooks L then 0 else 1
theorem eV_t {L : List Bk} (h : vBooks L = true) : eV L = 0 := by unfold eV; rw [if_pos h]
theorem eV_f {L : List Bk} (h : vBooks L = false) : eV L = 1 := by unfold eV; rw [h]; rfl
theorem IsSorted_c (A : Option Addr) (c : Nat) (L : List Bk) (w : World) (hL : kBk.C w A L.length L) : Calls Try.prog 54 #[.slice A L.length c] w (Ret w (.tuple #[.bool (vBooks L && isS L), .int .i64 (eV L)])) := by
  have HL := Aside0.mk hL
  have HV := Aside0.mk (ValidBooks_c A c L w hL)
  clear hL
  cases h : vBooks L
  · rw [h] at HV
    have HE := Aside0.mk (eV_f h)
    clear h
    go_enter Try.func54, Try.ntmps54
    go_wp2_with fail
    refine HV.out.mono ?_; rintro _ w1 ⟨rfl, hb1⟩
    go_wp2_with fail
    exact bodyPost_ret (v := .tuple #[.bool false, .int .i64 1]) (by simp [results, Try.results54, go_sem]) rfl ⟨by rw [HE.out]; rfl, hb1⟩
  · rw [h] at HV
    have HE := Aside0.mk (eV_t h)
    clear h
    go_enter Try.func54, Try.ntmps54
    go_wp2_with fail
    refine HV.out.mono ?_; rintro _ w1 ⟨rfl, hb1⟩
    go_wp2_with fail
    refine (isSorted_c A c L _ (Kd.C_below HL.out hb1)).mono ?_; rintro _ w2 ⟨rfl, hb2⟩
    go_wp2_with fail
    exact bodyPost_ret (v := .tuple #[.bool (isS L), .int .i64 0]) (by simp [results, Try.results54, go_sem]) rfl ⟨by rw [HE.out, Bool.true_and], bstep hb1 hb2⟩
theorem specIsSorted_c (A : Option Addr) (c : Nat) (L : List Bk) (hok : OkL L) (w : World) (hL : kBk.C w A L.length L) : Calls Try.prog 53 #[.slice A L.length c] w (Ret w (.tuple #[.bool (vBooks L && isS L), .int .i64 (eV L)])) := by
  have HL := Aside0.mk hL
  have HO := Aside0.mk hok
  have HV := Aside0.mk (l01Ok_c A c L hok w hL)
  clear hL hok
  cases h : vBooks L
  · rw [h] at HV
    have HE := Aside0.mk (eV_f h)
    clear h
    go_enter Try.func53, Try.ntmps53
    go_wp2_with fail
    refine HV.out.mono ?_; rintro _ w1 ⟨rfl, hb1⟩
    go_wp2_with fail
    exact bodyPost_ret (v := .tuple #[.bool false, .int .i64 1]) (by simp [results, Try.results53, go_sem]) rfl ⟨by rw [HE.out]; rfl, hb1⟩
  · rw [h] at HV
    have HE := Aside0.mk (eV_t h)
    clear h
    go_enter Try.func53, Try.ntmps53
    go_wp2_with fail
    refine HV.out.mono ?_; rintro _ w1 ⟨rfl, hb1⟩
    go_wp2_with fail
    refine (l01Out_c A c L _ (Kd.C_below HL.out hb1) HO.out).mono ?_; rintro _ w2 ⟨rfl, hb2⟩
    go_wp2_with fail
    exact bodyPost_ret (v := .tuple #[.bool (decide (outOf L < 0)), .int .i64 0]) (by simp [results, Try.results53, go_sem]) rfl ⟨by rw [HE.out, Bool.true_and]; rfl, bstep hb1 hb2⟩
end Go.Proofs.Ytgdhopcbiekhhaa
