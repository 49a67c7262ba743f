/- The law FnExactValidBooks returns true of every list. -/
import Derived.Test.YtgdhopcbiekhhaaValid
import Derived.Test.YtgdhopcbiekhhaaToS
import Derived.Test.YtgdhopcbiekhhaaEq
namespace Go.Proofs.Ytgdhopcbiekhhaa
open Go.RowKit Go.Proofs.YtgdhopcbiekhhaaW.PrintWords Go.Proofs.YtgdhopcbiekhhaaW.PrintMore
set_option linter.unusedVariables false
set_option linter.unusedSimpArgs false
set_option maxRecDepth 100000

set_option maxHeartbeats 2000000 in
theorem FnExactValidBooks_c (A : Option Addr) (c : Nat) (L : List Bk) (hlc : L.length ≤ c) {w : World} (hL : kBk.C w A L.length L) (hok : OkL L) :
    Calls Try.prog 8 #[.slice A L.length c] w (Ret w (.bool true)) := by
  have hr := Kd.C_max hL
  have HL := Aside0.mk hL
  have HO := Aside0.mk hok
  have HR := Aside0.mk hr
  clear hL hok hr
  by_cases hlt : (1048576 : Int) < (L.length : Int)
  · have HS := Aside0.mk (szBookS_lt A c _ _ w HR.out (by omega) (by omega) hlt)
    clear hlt
    go_enter Try.func8, Try.ntmps8
    go_wp2_with fail
    refine HS.out.mono ?_; rintro _ w1 ⟨rfl, rfl⟩
    go_wp2_with fail
    go_ret
    exact ⟨rfl, Below.refl _ _⟩
  · have HS := Aside0.mk (szBookS_ge A c _ _ w HR.out (by omega) (by omega) hlt)
    have HN := Aside0.mk (show L.length ≤ 2097152 by omega)
    have hle : (L.length : Int) ≤ 1048576 := by omega
    clear hlt
    go_enter Try.func8, Try.ntmps8
    go_wp2_with fail
    refine HS.out.mono ?_; rintro _ w1 ⟨rfl, rfl⟩
    go_wp2_with fail
    refine (toBookS_c A c L _ HL.out HN.out).mono ?_; rintro _ w1 ⟨v1, rfl, hb1, hv1⟩
    obtain ⟨A1, c1, rfl, hlc1, C1⟩ := hv1.open
    have HB1 := Aside0.mk hb1; clear hb1 hv1
    go_wp2_with fail
    refine (specValidBooks_c A1 c1 L HO.out _ C1.out).mono ?_; rintro _ w2 ⟨rfl, hb2⟩
    have HB2 := Aside0.mk (bstep HB1.out hb2); clear hb2
    go_wp2_with fail
    refine (toBookS_c A c L _ (Kd.C_below HL.out HB2.out) HN.out).mono ?_; rintro _ w3 ⟨v3, rfl, hb3, hv3⟩
    obtain ⟨A3, c3, rfl, hlc3, C3⟩ := hv3.open
    have HB3 := Aside0.mk (bstep HB2.out hb3); clear hb3 hv3
    go_wp2_with fail
    refine (ValidBooks_c A3 c3 L _ C3.out).mono ?_; rintro _ w4 ⟨rfl, hb4⟩
    have C4 := Aside0.mk (Kd.C_below C3.out hb4)
    have HB4 := Aside0.mk (bstep HB3.out hb4); clear hb4
    go_wp2_with fail
    refine (toBookS_c A c L _ (Kd.C_below HL.out HB4.out) HN.out).mono ?_; rintro _ w5 ⟨v5, rfl, hb5, hv5⟩
    obtain ⟨A5, c5, rfl, hlc5, C5⟩ := hv5.open
    have C6 := Aside0.mk (Kd.C_below C4.out hb5)
    have HB5 := Aside0.mk (bstep HB4.out hb5); clear hb5 hv5
    go_wp2_with fail
    refine (eqBookS_c A3 A5 c3 c5 L L _ C6.out C5.out).mono ?_; rintro _ w6 ⟨rfl, hb6⟩
    have HB6 := Aside0.mk (bstep HB5.out hb6); clear hb6
    go_wp2_with fail
    go_ret
    exact ⟨rfl, HB6.out⟩
end Go.Proofs.Ytgdhopcbiekhhaa
