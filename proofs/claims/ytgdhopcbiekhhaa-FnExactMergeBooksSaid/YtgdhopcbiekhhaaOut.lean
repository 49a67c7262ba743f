/- Rows of books in the usual order: the program's and the reference's isSorted, l01Out. -/
import Derived.Test.YtgdhopcbiekhhaaCmpU
import Derived.Test.YtgdhopcbiekhhaaValid
import Derived.StillTailTactics
import Derived.Still
import Derived.Deep.QuietTactic
import Derived.BigQuiet
namespace Go.Proofs.Ytgdhopcbiekhhaa
open Go.RowKit Go.Proofs.YtgdhopcbiekhhaaW.PrintWords Go.Proofs.YtgdhopcbiekhhaaW.PrintMore
set_option linter.unusedVariables false
set_option linter.unusedSimpArgs false
set_option maxRecDepth 100000

/-- Element i is out: below the one before it. -/
def outAt (L : List Bk) (i : Nat) : Bool := match L[i]?, L[i - 1]? with
  | some x, some y => decide (cmpU x y < 0)
  | _, _ => false
theorem outAt_of {L : List Bk} {i : Nat} {x y : Bk} (h : L[i]? = some x) (h' : L[i - 1]? = some y) : outAt L i = decide (cmpU x y < 0) := by
  unfold outAt; rw [h, h']
/-- The first element from k on that is out, -1 if none is. -/
def outFrom (L : List Bk) : Nat → Nat → Int
  | _, 0 => -1
  | k, g + 1 => if outAt L k then (k : Int) else outFrom L (k + 1) g
def outOf (L : List Bk) : Int := outFrom L 1 (L.length - 1)
theorem outFrom_hit {L : List Bk} {k g : Nat} (h : outAt L k = true) (hg : 0 < g) : outFrom L k g = (k : Int) := by
  match g, hg with
  | g + 1, _ => rw [outFrom, if_pos h]
theorem outFrom_next {L : List Bk} {k g : Nat} (h : outAt L k = false) (hg : 0 < g) : outFrom L k g = outFrom L (k + 1) (g - 1) := by
  match g, hg with
  | g + 1, _ => rw [outFrom, if_neg (by simp [h])]; rfl
theorem outFrom_none (L : List Bk) (k : Nat) : outFrom L k 0 = -1 := rfl
set_option maxHeartbeats 4000000 in
theorem l01Out_c (A : Option Addr) (c : Nat) (L : List Bk) (w : World) (hL : kBk.C w A L.length L) (hok : ∀ b ∈ L, b.ok) : Calls Try.prog 109 #[.slice A L.length c] w (Ret w (.int .i64 (outOf L))) := by
  have hm := Kd.C_max hL
  have HL := Aside0.mk hL
  have HO := Aside0.mk hok
  clear hL hok
  go_enter Try.func109, Try.ntmps109
  go_wp2
  go_loopg [3] (L.length - 1) (fun gk v wr => ∃ j : Nat, v = .int .i64 ((j : Int) + 1) ∧ Aside0 (gk = L.length - 1 - j ∧ outFrom L (j + 1) (L.length - 1 - j) = outOf L) ∧ Aside0 (Below w.heap.size w wr))
  case atStart => exact ⟨0, rfl, ⟨by omega, rfl⟩, ⟨Below.refl _ _⟩⟩
  case round =>
    obtain ⟨k, rfl, hk, hb⟩ := hrel
    by_cases hlt : k + 1 < L.length
    · obtain ⟨ad, b, rfl, hbk, hx⟩ := at_bk' (Kd.C_below HL.out hb.out) (k + 1) hlt
      obtain ⟨ad', b', e', hbk', hy⟩ := at_bk' (Kd.C_below HL.out hb.out) k (by omega)
      injection e' with e'
      subst e'
      have HX := Aside0.mk (l01Usual_c _ _ b b' (HO.out b (mem_of hbk.out)) (HO.out b' (mem_of hbk'.out)) _ (hx.below (bdrew (Below.refl _ _))) (hy.below (bdrew (Below.refl _ _))))
      have HA := Aside0.mk (outAt_of hbk.out hbk'.out)
      clear hx hy
      have i0 : (0 : Int) ≤ (k : Int) := by omega
      have i1 : (k : Int) + 1 < (L.length : Int) := by omega
      have i2 : (k : Int) < (L.length : Int) := by omega
      have i3 : ((k : Int) + 1).toNat = k + 1 := by omega
      have i4 : (0 : Int) ≤ (k : Int) + 1 := by omega
      have iw : IntKind.i64.wrap (k : Int) = (k : Int) := by simp only [IntKind.wrap, IntKind.bits, IntKind.signed, Bool.true_and, decide_eq_true_eq, ge_iff_le]; split <;> omega
      go_wp2_with fail
      go_still_tail 7, (by kernel_rfl)
      go_wp2_with fail
      refine HX.out.mono ?_; rintro _ w1 ⟨rfl, hb1⟩
      have HB1 := Aside0.mk (bstep (bdrew hb.out) hb1)
      clear hb1 HX
      by_cases ho : cmpU b b' < 0
      · have HR := Aside0.mk (show outOf L = ((k + 1 : Nat) : Int) by rw [← hk.out.2]; exact outFrom_hit (by rw [HA.out]; simpa using ho) (by omega))
        go_wp2
        go_ret
        exact ⟨ret_int (by rw [HR.out]; omega), HB1.out⟩
      · have HR := Aside0.mk (show outFrom L (k + 1 + 1) (L.length - 1 - (k + 1)) = outOf L by
          rw [← hk.out.2, outFrom_next (k := k + 1) (by rw [HA.out]; simpa using ho) (by omega)]
          congr 1)
        go_wp2
        go_roundg (gk - 1)
        case measure => have := hk.out.1; omega
        case rel => exact ⟨k + 1, by go_num, ⟨by have := hk.out.1; omega, HR.out⟩, HB1⟩
    · have HR := Aside0.mk (show outOf L = -1 by rw [← hk.out.2, show L.length - 1 - k = 0 by omega]; rfl)
      have i3 : (L.length : Int) ≤ (k : Int) + 1 := by omega
      go_wp2
      go_ret
      exact ⟨ret_int HR.out.symm, hb.out⟩
end Go.Proofs.Ytgdhopcbiekhhaa
