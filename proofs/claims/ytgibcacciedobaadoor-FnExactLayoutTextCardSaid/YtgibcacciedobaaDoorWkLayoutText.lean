/- The law FnExactLayoutText returns true of every input. -/
import Derived.Test.YtgibcacciedobaaDoorTxY
import Derived.Test.YtgibcacciedobaaDoorScal
import Derived.StillTailTactics
import Derived.Still
import Derived.Deep.QuietTactic
import Derived.BigQuiet
namespace Go.Proofs.YtgibcacciedobaaDoor
open Go.RowKit Go.Proofs.YtgibcacciedobaaDoorW.PrintWords Go.Proofs.YtgibcacciedobaaDoorW.PrintMore
set_option linter.unusedVariables false
set_option linter.unusedSimpArgs false
set_option maxRecDepth 100000

def tL (E : List Int) : ByteArray := if plainE E = true then bS (lyT E) else ⟨#[]⟩
set_option maxHeartbeats 2000000 in
theorem LayoutText_c (A : Option Addr) (c : Nat) (E : List Int) (w : World) (hE : (Kd.int .i64).C w A E.length E) (ht : Tab w) : Calls Tryd.prog 28 #[.slice A E.length c] w (Ret w (.string (tL E))) := by
  have HI := Aside0.mk (isLayoutText_c A c E w hE)
  have HE := Aside0.mk hE
  have HT := Aside0.mk ht
  clear ht hE
  cases hv : plainE E
  · have HV := Aside0.mk (show tL E = ⟨#[]⟩ by unfold tL; rw [hv]; rfl)
    rw [hv] at HI
    clear hv
    go_enter Tryd.func28, Tryd.ntmps28
    go_wp2_with (go_at_call 59; refine HI.out.mono ?_; rintro _ w2 ⟨rfl, hb2⟩)
    go_ret
    exact ⟨ret_str HV.out.symm, hb2⟩
  · have HV := Aside0.mk (show tL E = bS (lyT E) by unfold tL; rw [hv]; rfl)
    have HP := Aside0.mk (plE hv)
    rw [hv] at HI
    clear hv
    go_enter Tryd.func28, Tryd.ntmps28
    go_wp2_with fail
    refine HI.out.mono ?_; rintro _ w1 ⟨rfl, hb1⟩
    have HB1 := Aside0.mk hb1
    clear hb1
    go_wp2_with fail
    refine (eachDecI_c A c E 62 (fun n => bS (dg n)) w1 (Kd.C_below HE.out HB1.out) (by have := HP.out.n; omega) ⟨_, Tryd.func62, rfl, rfl⟩ (fun W hW x hx => dec64_c x (HP.out.x x hx).1 (by have := HP.out.x x hx; omega) W ((HT.out.below HB1.out).below hW))).mono ?_
    rintro _ w2 ⟨v, rfl, hb2, hR⟩
    have hR' : Kd.string.R 9 w2 w1.heap.size (fun _ => True) v ((E.map dg).map bS) := by rw [List.map_map]; exact hR
    have hj : Go.Lib.join (E.map dg) [44] = lyT E := join_joinL 44 _
    have HJ := Aside0.mk (join_R (E.map dg) [44] v w1 w2 (fun e => by have := congrArg List.length e; rw [List.length_map, List.length_nil] at this; have := HP.out.n; omega) hR' (by rw [List.length_map]; have := HP.out.n; omega) (by rw [hj]; have := lyT_len HP.out; omega))
    rw [hj] at HJ
    have HB2 := Aside0.mk (bstep HB1.out hb2)
    clear hb2 hR hR' hj
    go_wp2_with fail
    refine HJ.out.mono ?_; rintro _ w3 ⟨rfl, hb3⟩
    go_wp2
    go_ret
    exact ⟨ret_str HV.out.symm, bstep HB2.out hb3⟩
set_option maxHeartbeats 2000000 in
theorem specLayoutText_c (A : Option Addr) (c : Nat) (E : List Int) (w : World) (hE : (Kd.int .i64).C w A E.length E) : Calls Tryd.prog 26 #[.slice A E.length c] w (Ret w (.string (tL E))) := by
  have HI := Aside0.mk (l02Plain_c A c E w hE)
  have HE := Aside0.mk hE
  clear hE
  cases hv : plainE E
  · have HV := Aside0.mk (show tL E = ⟨#[]⟩ by unfold tL; rw [hv]; rfl)
    rw [hv] at HI
    clear hv
    go_enter Tryd.func26, Tryd.ntmps26
    go_wp2_with (go_at_call 57; refine HI.out.mono ?_; rintro _ w2 ⟨rfl, hb2⟩)
    go_ret
    exact ⟨ret_str HV.out.symm, hb2⟩
  · have HV := Aside0.mk (show tL E = bS (lyT E) by unfold tL; rw [hv]; rfl)
    have HC := Aside0.mk (fun W h => l02EndsText_c A c E (plE hv) W h)
    rw [hv] at HI
    clear hv
    go_enter Tryd.func26, Tryd.ntmps26
    go_wp2_with fail
    refine HI.out.mono ?_; rintro _ w1 ⟨rfl, hb1⟩
    have HB1 := Aside0.mk hb1
    clear hb1
    go_wp2_with fail
    refine (HC.out _ (Kd.C_below HE.out HB1.out)).mono ?_; rintro _ w2 ⟨rfl, hb2⟩
    go_wp2
    go_ret
    exact ⟨ret_str HV.out.symm, bstep HB1.out hb2⟩
set_option maxHeartbeats 4000000 in
theorem FnExactLayoutText_c {w : World} (A : Option Addr) (c : Nat) (E : List Int) (hlc : E.length ≤ c) (hE : (Kd.int .i64).C w A E.length E) (hok : OkI64 E) (ht : Tab w) : Calls Tryd.prog 7 #[.slice A E.length c] w (Ret w (.bool true)) := by
  have hm := Kd.C_max hE
  have HE := Aside0.mk hE
  have HT := Aside0.mk ht
  clear hE hok ht
  by_cases hlong : 1048576 < E.length
  · have hl' : (1048576 : Int) < (E.length : Int) := by omega
    go_enter Tryd.func7, Tryd.ntmps7
    go_wp2
    go_ret
    exact ⟨rfl, Below.refl _ _⟩
  · have hl' : ¬ ((1048576 : Int) < (E.length : Int)) := by omega
    have HO := Aside0.mk (fun W h => toInt64S_c A c E W h (by omega))
    have HS := Aside0.mk (fun A' c' W h => specLayoutText_c A' c' E W h)
    have HC := Aside0.mk (fun A' c' W h h2 => LayoutText_c A' c' E W h h2)
    have HQ := Aside0.mk (fun A' A'' c' c'' W h h2 => eqInt64S_c A' A'' c' c'' E E W h h2)
    rw [decide_eq_true rfl] at HQ
    generalize tL E = s at HS HC
    go_enter Tryd.func7, Tryd.ntmps7
    go_wp2_with fail
    refine (HO.out _ HE.out).mono ?_; rintro _ w1 ⟨_, rfl, hb1, hv1⟩
    obtain ⟨A1, c1, rfl, hc1, HC1⟩ := hv1.open
    have HB1 := Aside0.mk hb1
    clear hb1 hv1
    go_wp2_with fail
    refine (HS.out _ _ _ HC1.out).mono ?_; rintro _ w2 ⟨rfl, hb2⟩
    have HB2 := Aside0.mk (bstep HB1.out hb2)
    clear hb2 HC1
    go_wp2_with fail
    refine (HO.out _ (Kd.C_below HE.out HB2.out)).mono ?_; rintro _ w3 ⟨_, rfl, hb3, hv3⟩
    obtain ⟨A3, c3, rfl, hc3, HC3⟩ := hv3.open
    have HB3 := Aside0.mk (bstep HB2.out hb3)
    clear hb3 hv3
    go_wp2_with fail
    refine (HC.out _ _ _ HC3.out (HT.out.below HB3.out)).mono ?_; rintro _ w4 ⟨rfl, hb4⟩
    have HB4 := Aside0.mk (bstep HB3.out hb4)
    have HC4 := Aside0.mk (Kd.C_below HC3.out hb4)
    clear hb4
    go_wp2_with fail
    refine (HO.out _ (Kd.C_below HE.out HB4.out)).mono ?_; rintro _ w5 ⟨_, rfl, hb5, hv5⟩
    obtain ⟨A5, c5, rfl, hc5, HC5⟩ := hv5.open
    have HB5 := Aside0.mk (bstep HB4.out hb5)
    have HC45 := Aside0.mk (Kd.C_below HC4.out hb5)
    clear hb5 hv5
    go_wp2_with fail
    refine (HQ.out _ _ _ _ _ HC45.out HC5.out).mono ?_; rintro _ w6 ⟨rfl, hb6⟩
    have HB6 := Aside0.mk (bstep HB5.out hb6)
    clear hb6
    go_wp2
    go_ret
    exact ⟨rfl, HB6.out⟩
end Go.Proofs.YtgibcacciedobaaDoor
