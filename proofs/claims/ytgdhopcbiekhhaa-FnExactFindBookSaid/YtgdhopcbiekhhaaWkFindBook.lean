/- The law FnExactFindBook returns true of every input. -/
import Derived.Test.YtgdhopcbiekhhaaFind
import Derived.Test.YtgdhopcbiekhhaaToS
import Derived.Test.YtgdhopcbiekhhaaEq
namespace Go.Proofs.Ytgdhopcbiekhhaa
open Go.RowKit Go.Proofs.YtgdhopcbiekhhaaW.PrintWords Go.Proofs.YtgdhopcbiekhhaaW.PrintMore
set_option linter.unusedVariables false
set_option linter.unusedSimpArgs false
set_option maxRecDepth 100000

set_option maxHeartbeats 4000000 in
theorem FnExactFindBook_c {w : World} (A0 : Option Addr) (c0 : Nat) (L0 : List Bk) (hlc0 : L0.length ≤ c0) (hL0 : kBk.C w A0 L0.length L0) (hok0 : OkL L0) (n1 : Int) (hn1 : -9223372036854775808 ≤ n1 ∧ n1 ≤ 9223372036854775807) (s2 : ByteArray) (hs2 : s2.size ≤ maxLen) (n3 : Int) (hn3 : -9223372036854775808 ≤ n3 ∧ n3 ≤ 9223372036854775807) :
    Calls Try.prog 18 #[.slice A0 L0.length c0, .int .i64 n1, .string s2, .int .i64 n3] w (Ret w (.bool true)) := by
  have hr0 := Kd.C_max hL0
  have HR0 := Aside0.mk hr0
  have HL0 := Aside0.mk hL0
  have HO0 := Aside0.mk hok0
  clear hL0 hok0 hr0
  have HB0 := Aside0.mk (Below.refl (w).heap.size w)
  by_cases hlt2 : 1048576 < s2.size
  · have hlti2 : (1048576 : Int) < (s2.size : Int) := by omega
    go_enter Try.func18, Try.ntmps18
    go_wp2_with fail
    go_ret
    exact ⟨rfl, Below.refl _ _⟩
  · have hle2 : (s2.size : Int) ≤ 1048576 := by omega
    by_cases hlt0 : (1048576 : Int) < (L0.length : Int)
    · have HS0 := Aside0.mk (szBookS_lt A0 c0 _ _ w HR0.out (by omega) (by omega) hlt0)
      go_enter Try.func18, Try.ntmps18
      go_wp2_with fail
      refine HS0.out.mono ?_; rintro _ w0_ ⟨rfl, rfl⟩
      go_wp2_with fail
      go_ret
      exact ⟨rfl, Below.refl _ _⟩
    · have HS0 := Aside0.mk (szBookS_ge A0 c0 _ _ w HR0.out (by omega) (by omega) hlt0)
      have hle0 : (L0.length : Int) ≤ (1048576 : Int) := by omega
      clear hlt0
      have HN0 := Aside0.mk (show L0.length ≤ 2097152 by omega)
      go_enter Try.func18, Try.ntmps18
      go_wp2_with fail
      refine HS0.out.mono ?_; rintro _ w0_ ⟨rfl, rfl⟩
      go_wp2_with fail
      refine (toBookS_c A0 c0 L0 _ (Kd.C_below HL0.out HB0.out) HN0.out).mono ?_; rintro _ w1_ ⟨v0, rfl, hb1, hv0⟩
      have HB1 := Aside0.mk (bstep HB0.out hb1)
      clear hb1
      obtain ⟨X0, d0, rfl, ld0, CX0⟩ := hv0.open
      clear hv0
      go_wp2_with fail
      refine (specFindBook_c X0 d0 L0 n1 s2 n3 HO0.out _ CX0.out).mono ?_; rintro _ w2_ ⟨rfl, hb2⟩
      have HB2 := Aside0.mk (bstep HB1.out hb2)
      have CX0_2 := Aside0.mk (Kd.C_below CX0.out hb2)
      clear hb2
      go_wp2_with fail
      refine (toBookS_c A0 c0 L0 _ (Kd.C_below HL0.out HB2.out) HN0.out).mono ?_; rintro _ w3_ ⟨v1, rfl, hb3, hv1⟩
      have HB3 := Aside0.mk (bstep HB2.out hb3)
      clear hb3
      obtain ⟨X1, d1, rfl, ld1, CX1⟩ := hv1.open
      clear hv1
      go_wp2_with fail
      refine (FindBook_c X1 d1 L0 n1 s2 n3 _ CX1.out).mono ?_; rintro _ w4_ ⟨rfl, hb4⟩
      have HB4 := Aside0.mk (bstep HB3.out hb4)
      have CX1_4 := Aside0.mk (Kd.C_below CX1.out hb4)
      clear hb4
      go_wp2_with fail
      refine (toBookS_c A0 c0 L0 _ (Kd.C_below HL0.out HB4.out) HN0.out).mono ?_; rintro _ w5_ ⟨v2, rfl, hb5, hv2⟩
      have HB5 := Aside0.mk (bstep HB4.out hb5)
      have CX1_5 := Aside0.mk (Kd.C_below CX1_4.out hb5)
      clear hb5
      obtain ⟨X2, d2, rfl, ld2, CX2⟩ := hv2.open
      clear hv2
      go_wp2_with fail
      refine (eqBookS_c X1 X2 d1 d2 L0 L0 _ CX1_5.out CX2.out).mono ?_; rintro _ w6_ ⟨rfl, hb6⟩
      have HB6 := Aside0.mk (bstep HB5.out hb6)
      have CX1_6 := Aside0.mk (Kd.C_below CX1_5.out hb6)
      have CX2_6 := Aside0.mk (Kd.C_below CX2.out hb6)
      clear hb6
      go_wp2_with fail
      go_ret
      exact ⟨rfl, HB6.out⟩
end Go.Proofs.Ytgdhopcbiekhhaa
