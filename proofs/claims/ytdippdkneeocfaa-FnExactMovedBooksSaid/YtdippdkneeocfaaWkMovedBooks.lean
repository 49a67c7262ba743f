/- The law FnExactMovedBooks returns true of every input. -/
import Derived.Test.YtdippdkneeocfaaMovB
namespace Go.Proofs.Ytdippdkneeocfaa
open Go.RowKit Go.Proofs.YtdippdkneeocfaaW.PrintWords Go.Proofs.YtdippdkneeocfaaW.PrintMore
set_option linter.unusedVariables false
set_option linter.unusedSimpArgs false
set_option maxRecDepth 100000

set_option maxHeartbeats 4000000 in
theorem FnExactMovedBooks_c {w : World} (A0 : Option Addr) (c0 : Nat) (L0 : List Int) (hlc0 : L0.length ≤ c0) (hL0 : (Kd.int .i64).C w A0 L0.length L0) (hok0 : OkI64 L0) (A1 : Option Addr) (c1 : Nat) (L1 : List Int) (hlc1 : L1.length ≤ c1) (hL1 : (Kd.int .i64).C w A1 L1.length L1) (hok1 : OkI64 L1) :
    Calls Try.prog 8 #[.slice A0 L0.length c0, .slice A1 L1.length c1] w (Ret w (.bool true)) := by
  have hr0 := Kd.C_max hL0
  have HR0 := Aside0.mk hr0
  have HL0 := Aside0.mk hL0
  have HO0 := Aside0.mk hok0
  clear hL0 hok0 hr0
  have hr1 := Kd.C_max hL1
  have HR1 := Aside0.mk hr1
  have HL1 := Aside0.mk hL1
  have HO1 := Aside0.mk hok1
  clear hL1 hok1 hr1
  have HB0 := Aside0.mk (Below.refl (w).heap.size w)
  by_cases hlt0 : 1048576 < L0.length
  · have hlti0 : (1048576 : Int) < (L0.length : Int) := by omega
    go_enter Try.func8, Try.ntmps8
    go_wp2_with fail
    go_ret
    exact ⟨rfl, Below.refl _ _⟩
  · have hle0 : (L0.length : Int) ≤ 1048576 := by omega
    by_cases hlt1 : 1048576 < L1.length
    · have hlti1 : (1048576 : Int) < (L1.length : Int) := by omega
      go_enter Try.func8, Try.ntmps8
      go_wp2_with fail
      go_ret
      exact ⟨rfl, Below.refl _ _⟩
    · have hle1 : (L1.length : Int) ≤ 1048576 := by omega
      have HN0 := Aside0.mk (show L0.length ≤ 2097152 by omega)
      have HN1 := Aside0.mk (show L1.length ≤ 2097152 by omega)
      go_enter Try.func8, Try.ntmps8
      go_wp2_with fail
      refine (toInt64S_c A0 c0 L0 _ (Kd.C_below HL0.out HB0.out) HN0.out).mono ?_; rintro _ w1_ ⟨v0, rfl, hb1, hv0⟩
      have HB1 := Aside0.mk (bstep HB0.out hb1)
      clear hb1
      obtain ⟨X0, d0, rfl, ld0, CX0⟩ := hv0.open
      clear hv0
      go_wp2_with fail
      refine (toInt64S_c A1 c1 L1 _ (Kd.C_below HL1.out HB1.out) HN1.out).mono ?_; rintro _ w2_ ⟨v1, rfl, hb2, hv1⟩
      have HB2 := Aside0.mk (bstep HB1.out hb2)
      have CX0_2 := Aside0.mk (Kd.C_below CX0.out hb2)
      clear hb2
      obtain ⟨X1, d1, rfl, ld1, CX1⟩ := hv1.open
      clear hv1
      go_wp2_with fail
      refine (specMovedBooks_c X0 X1 d0 d1 L0 L1 _ CX0_2.out CX1.out).mono ?_; rintro _ w3_ ⟨rfl, hb3⟩
      have HB3 := Aside0.mk (bstep HB2.out hb3)
      have CX0_3 := Aside0.mk (Kd.C_below CX0_2.out hb3)
      have CX1_3 := Aside0.mk (Kd.C_below CX1.out hb3)
      clear hb3
      go_wp2_with fail
      refine (toInt64S_c A0 c0 L0 _ (Kd.C_below HL0.out HB3.out) HN0.out).mono ?_; rintro _ w4_ ⟨v2, rfl, hb4, hv2⟩
      have HB4 := Aside0.mk (bstep HB3.out hb4)
      clear hb4
      obtain ⟨X2, d2, rfl, ld2, CX2⟩ := hv2.open
      clear hv2
      go_wp2_with fail
      refine (toInt64S_c A1 c1 L1 _ (Kd.C_below HL1.out HB4.out) HN1.out).mono ?_; rintro _ w5_ ⟨v3, rfl, hb5, hv3⟩
      have HB5 := Aside0.mk (bstep HB4.out hb5)
      have CX2_5 := Aside0.mk (Kd.C_below CX2.out hb5)
      clear hb5
      obtain ⟨X3, d3, rfl, ld3, CX3⟩ := hv3.open
      clear hv3
      go_wp2_with fail
      refine (MovedBooks_c X2 X3 d2 d3 L0 L1 _ CX2_5.out CX3.out).mono ?_; rintro _ w6_ ⟨rfl, hb6⟩
      have HB6 := Aside0.mk (bstep HB5.out hb6)
      have CX2_6 := Aside0.mk (Kd.C_below CX2_5.out hb6)
      have CX3_6 := Aside0.mk (Kd.C_below CX3.out hb6)
      clear hb6
      go_wp2_with fail
      refine (toInt64S_c A0 c0 L0 _ (Kd.C_below HL0.out HB6.out) HN0.out).mono ?_; rintro _ w7_ ⟨v4, rfl, hb7, hv4⟩
      have HB7 := Aside0.mk (bstep HB6.out hb7)
      have CX2_7 := Aside0.mk (Kd.C_below CX2_6.out hb7)
      have CX3_7 := Aside0.mk (Kd.C_below CX3_6.out hb7)
      clear hb7
      obtain ⟨X4, d4, rfl, ld4, CX4⟩ := hv4.open
      clear hv4
      go_wp2_with fail
      refine (eqInt64S_c X2 X4 d2 d4 L0 L0 _ CX2_7.out CX4.out).mono ?_; rintro _ w8_ ⟨rfl, hb8⟩
      have HB8 := Aside0.mk (bstep HB7.out hb8)
      have CX2_8 := Aside0.mk (Kd.C_below CX2_7.out hb8)
      have CX3_8 := Aside0.mk (Kd.C_below CX3_7.out hb8)
      have CX4_8 := Aside0.mk (Kd.C_below CX4.out hb8)
      clear hb8
      go_wp2_with fail
      refine (toInt64S_c A1 c1 L1 _ (Kd.C_below HL1.out HB8.out) HN1.out).mono ?_; rintro _ w9_ ⟨v5, rfl, hb9, hv5⟩
      have HB9 := Aside0.mk (bstep HB8.out hb9)
      have CX2_9 := Aside0.mk (Kd.C_below CX2_8.out hb9)
      have CX3_9 := Aside0.mk (Kd.C_below CX3_8.out hb9)
      clear hb9
      obtain ⟨X5, d5, rfl, ld5, CX5⟩ := hv5.open
      clear hv5
      go_wp2_with fail
      refine (eqInt64S_c X3 X5 d3 d5 L1 L1 _ CX3_9.out CX5.out).mono ?_; rintro _ w10_ ⟨rfl, hb10⟩
      have HB10 := Aside0.mk (bstep HB9.out hb10)
      have CX2_10 := Aside0.mk (Kd.C_below CX2_9.out hb10)
      have CX3_10 := Aside0.mk (Kd.C_below CX3_9.out hb10)
      have CX5_10 := Aside0.mk (Kd.C_below CX5.out hb10)
      clear hb10
      go_wp2_with fail
      go_ret
      exact ⟨rfl, HB10.out⟩
end Go.Proofs.Ytdippdkneeocfaa
