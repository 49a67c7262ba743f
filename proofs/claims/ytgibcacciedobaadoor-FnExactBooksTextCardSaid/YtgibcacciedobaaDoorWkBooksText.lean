/- The law FnExactBooksText returns true of every input. -/
import Derived.Test.YtgibcacciedobaaDoorTxM
import Derived.Test.YtgibcacciedobaaDoorToS
import Derived.Test.YtgibcacciedobaaDoorEq
import Derived.StillTailTactics
import Derived.Still
import Derived.Deep.QuietTactic
import Derived.BigQuiet
namespace Go.Proofs.YtgibcacciedobaaDoor
open Go.RowKit Go.Proofs.YtgibcacciedobaaDoorW.PrintWords Go.Proofs.YtgibcacciedobaaDoorW.PrintMore
set_option linter.unusedVariables false
set_option linter.unusedSimpArgs false
set_option maxRecDepth 100000

set_option maxHeartbeats 4000000 in
theorem FnExactBooksText_c {w : World} (A : Option Addr) (c : Nat) (L : List Bk) (hlc : L.length ≤ c) (hL : kBk.C w A L.length L) (hok : OkL L) (ht : Tab w) : Calls Tryd.prog 4 #[.slice A L.length c] w (Ret w (.bool true)) := by
  have hm := Kd.C_max hL
  have HE := Aside0.mk hL
  have HT := Aside0.mk ht
  have HOK := Aside0.mk hok
  clear hL hok ht
  by_cases hlong : (1048576 : Int) < (L.length : Int)
  · have HZ := Aside0.mk (fun W => szBookS_lt A c L.length 1048576 W hm (by omega) (by omega) hlong)
    go_enter Tryd.func4, Tryd.ntmps4
    go_wp2_with fail
    refine (HZ.out _).mono ?_; rintro _ w1 ⟨rfl, hb1⟩
    go_wp2
    go_ret
    exact ⟨rfl, by rw [← hb1]; exact Below.refl _ _⟩
  · have HZ := Aside0.mk (fun W => szBookS_ge A c L.length 1048576 W hm (by omega) (by omega) hlong)
    have HO := Aside0.mk (fun W h => toBookS_c A c L W h (by omega))
    have HS := Aside0.mk (fun A' c' W h => specBooksText_c A' c' L HOK.out W h)
    have HC := Aside0.mk (fun A' c' W h h2 => BooksText_c A' c' L W h h2)
    have HQ := Aside0.mk (fun A' A'' c' c'' W h h2 => eqBookS_c A' A'' c' c'' L L W h h2)
    rw [decide_eq_true rfl] at HQ
    have hle : (L.length : Int) ≤ 1048576 := by omega
    generalize tBs L = s at HS HC
    go_enter Tryd.func4, Tryd.ntmps4
    go_wp2_with fail
    refine (HZ.out _).mono ?_; rintro _ w0 ⟨rfl, hb0⟩
    have HB0 := Aside0.mk (show Below w.heap.size w w0 by rw [← hb0]; exact Below.refl _ _)
    clear hb0
    go_wp2_with fail
    refine (HO.out _ (Kd.C_below HE.out HB0.out)).mono ?_; rintro _ w1 ⟨_, rfl, hb1, hv1⟩
    obtain ⟨A1, c1, rfl, hc1, HC1⟩ := hv1.open
    have HB1 := Aside0.mk (bstep HB0.out hb1)
    clear hb1 hv1
    go_wp2_with fail
    refine (HS.out _ _ _ HC1.out).mono ?_; rintro _ w2 ⟨rfl, hb2⟩
    have HB2 := Aside0.mk (bstep HB1.out hb2)
    clear hb2 HC1
    go_wp2_with fail
    refine (HO.out _ (Kd.C_below HE.out HB2.out)).mono ?_; rintro _ w3 ⟨_, rfl, hb3, hv3⟩
    obtain ⟨A3, c3, rfl, hc3, HC3⟩ := hv3.open
    have HB3 := Aside0.mk (bstep HB2.out hb3)
    clear hb3 hv3
    go_wp2_with fail
    refine (HC.out _ _ _ HC3.out (HT.out.below HB3.out)).mono ?_; rintro _ w4 ⟨rfl, hb4⟩
    have HB4 := Aside0.mk (bstep HB3.out hb4)
    have HC4 := Aside0.mk (Kd.C_below HC3.out hb4)
    clear hb4
    go_wp2_with fail
    refine (HO.out _ (Kd.C_below HE.out HB4.out)).mono ?_; rintro _ w5 ⟨_, rfl, hb5, hv5⟩
    obtain ⟨A5, c5, rfl, hc5, HC5⟩ := hv5.open
    have HB5 := Aside0.mk (bstep HB4.out hb5)
    have HC45 := Aside0.mk (Kd.C_below HC4.out hb5)
    clear hb5 hv5
    go_wp2_with fail
    refine (HQ.out _ _ _ _ _ HC45.out HC5.out).mono ?_; rintro _ w6 ⟨rfl, hb6⟩
    have HB6 := Aside0.mk (bstep HB5.out hb6)
    clear hb6
    go_wp2
    go_ret
    exact ⟨rfl, HB6.out⟩
end Go.Proofs.YtgibcacciedobaaDoor
