/- Comparing two books by one field and by an order: the program's. -/
import Derived.Test.YtgdhopcbiekhhaaCmp
import Derived.StillTailTactics
import Derived.Still
namespace Go.Proofs.Ytgdhopcbiekhhaa
open Go.RowKit Go.Proofs.YtgdhopcbiekhhaaW.PrintWords Go.Proofs.YtgdhopcbiekhhaaW.PrintMore
set_option linter.unusedVariables false
set_option linter.unusedSimpArgs false
set_option maxRecDepth 100000

theorem at_three {W : World} {A : Option Addr} {x y z : Int} (h : (Kd.int .u8).C W A 3 [x, y, z]) : ∃ ad, A = some ad ∧ W.cell? ad = some (.int .u8 x) ∧ W.cell? ⟨ad.block, ad.off + 1, none⟩ = some (.int .u8 y) ∧ W.cell? ⟨ad.block, ad.off + 2, none⟩ = some (.int .u8 z) := by
  obtain ⟨ad, e0, e, h0, c0⟩ := at_int' h 0 (by omega)
  obtain ⟨ad1, e1, f1, h1, c1⟩ := at_int' h 1 (by omega)
  obtain ⟨ad2, e2, f2, h2, c2⟩ := at_int' h 2 (by omega)
  subst e
  injection f1 with f1; subst f1
  injection f2 with f2; subst f2
  have a0 := h0.out; have a1 := h1.out; have a2 := h2.out
  simp only [List.getElem?_cons_zero, List.getElem?_cons_succ, Option.some.injEq] at a0 a1 a2
  subst a0 a1 a2
  exact ⟨ad, rfl, c0, c1, c2⟩
theorem BkAt.mark_C {W : World} {g o : Nat} {b : Bk} (h : BkAt W ⟨g, o, none⟩ b) : (Kd.int .u8).C W (some ⟨g, o + 1, none⟩) 3 [b.m0, b.m1, b.m2] :=
  marks_C W g (o + 1) b.m0 b.m1 b.m2 h.c1 h.c2 h.c3
set_option maxHeartbeats 2000000 in
theorem compare3_c (A A' : Option Addr) (c c' : Nat) (x0 x1 x2 y0 y1 y2 : Int) (w : World) (hL : (Kd.int .u8).C w A 3 [x0, x1, x2]) (hL' : (Kd.int .u8).C w A' 3 [y0, y1, y2]) :
    Calls Try.prog 152 #[.slice A 3 c, .slice A' 3 c'] w (RetS w (.int .i64 (cmp3 x0 x1 x2 y0 y1 y2))) := by
  obtain ⟨ad, rfl, a0, a1, a2⟩ := at_three hL
  obtain ⟨bd, rfl, b0, b1, b2⟩ := at_three hL'
  clear hL hL'
  by_cases e0 : x0 = y0
  · have q0 : (cmpI x0 y0 != 0) = false := by rw [cmpI_eq e0]; rfl
    by_cases e1 : x1 = y1
    · have q1 : (cmpI x1 y1 != 0) = false := by rw [cmpI_eq e1]; rfl
      have HV := Aside0.mk (show cmp3 x0 x1 x2 y0 y1 y2 = cmpI x2 y2 by unfold cmp3; rw [if_pos e0, if_pos e1])
      by_cases e2 : x2 = y2
      · have q2 : (cmpI x2 y2 != 0) = false := by rw [cmpI_eq e2]; rfl
        have HZ := Aside0.mk (cmpI_eq e2)
        clear e0 e1 e2
        go_enter Try.func152, Try.ntmps152
        go_wp2
        refine wp_loop_rounds 4 ?_
        iterate 4 (rw [rounds_succ]; go_wp2_with (go_at_call 159; refine (cmp8_c _ _ _).mono ?_; rintro _ w1 ⟨rfl, rfl⟩))
        go_ret
        exact ⟨ret_int (by rw [HV.out, HZ.out]), rfl⟩
      · have q2 : (cmpI x2 y2 != 0) = true := by simp; exact fun h => e2 (cmpI_zero.1 h)
        clear e0 e1 e2
        go_enter Try.func152, Try.ntmps152
        go_wp2
        refine wp_loop_rounds 3 ?_
        iterate 3 (rw [rounds_succ]; go_wp2_with (go_at_call 159; refine (cmp8_c _ _ _).mono ?_; rintro _ w1 ⟨rfl, rfl⟩))
        go_ret
        exact ⟨ret_int HV.out.symm, rfl⟩
    · have q1 : (cmpI x1 y1 != 0) = true := by simp; exact fun h => e1 (cmpI_zero.1 h)
      have HV := Aside0.mk (show cmp3 x0 x1 x2 y0 y1 y2 = cmpI x1 y1 by unfold cmp3; rw [if_pos e0, if_neg e1])
      clear e0 e1
      go_enter Try.func152, Try.ntmps152
      go_wp2
      refine wp_loop_rounds 2 ?_
      iterate 2 (rw [rounds_succ]; go_wp2_with (go_at_call 159; refine (cmp8_c _ _ _).mono ?_; rintro _ w1 ⟨rfl, rfl⟩))
      go_ret
      exact ⟨ret_int HV.out.symm, rfl⟩
  · have q0 : (cmpI x0 y0 != 0) = true := by simp; exact fun h => e0 (cmpI_zero.1 h)
    have HV := Aside0.mk (show cmp3 x0 x1 x2 y0 y1 y2 = cmpI x0 y0 by unfold cmp3; rw [if_neg e0])
    clear e0
    go_enter Try.func152, Try.ntmps152
    go_wp2
    refine wp_loop_rounds 1 ?_
    iterate 1 (rw [rounds_succ]; go_wp2_with (go_at_call 159; refine (cmp8_c _ _ _).mono ?_; rintro _ w1 ⟨rfl, rfl⟩))
    go_ret
    exact ⟨ret_int HV.out.symm, rfl⟩

set_option maxHeartbeats 2000000 in
theorem compareIn_c (f : Int) (a b : Bk) (w : World) : Calls Try.prog 143 #[.int .i8 f, a.val, b.val] w (Ret w (.int .i64 (fldCmp f a b))) := by
  have HA := Aside0.mk (BkAt.below (BkAt.box w a 34) (balloc (Below.refl _ _) (.cells #[.int .i16 b.c, .int .u8 b.m0, .int .u8 b.m1, .int .u8 b.m2, .int .i16 b.v, .int .i16 b.wd, .int .i16 b.h, .int .i16 b.wt] 34)))
  have HB := Aside0.mk (BkAt.box (w.alloc (.cells #[.int .i16 a.c, .int .u8 a.m0, .int .u8 a.m1, .int .u8 a.m2, .int .i16 a.v, .int .i16 a.wd, .int .i16 a.h, .int .i16 a.wt] 34)) b 34)
  simp only [Bk.val]
  by_cases e2 : f = 2
  · subst e2
    have HV := Aside0.mk (show fldCmp 2 a b = cmp3 a.m0 a.m1 a.m2 b.m0 b.m1 b.m2 from rfl)
    have hA := (BkAt.below HA.out (Below.refl _ _).drew).mark_C
    have hB := (BkAt.below HB.out (Below.refl _ _).drew).mark_C
    simp only [World.size_alloc] at hB
    have HC := Aside0.mk (fun c c' => compare3_c _ _ c c' _ _ _ _ _ _ _ hA hB)
    clear hA hB
    go_enter Try.func143, Try.ntmps143
    go_wp2_with fail
    go_still_tail 4, (by kernel_rfl)
    go_wp2_with fail
    refine (HC.out _ _).mono ?_; rintro _ w1 ⟨rfl, rfl⟩
    go_wp2_with fail
    go_ret
    exact ⟨ret_int HV.out.symm, bdrew (balloc (balloc (Below.refl _ _) _) _)⟩
  · have HV := Aside0.mk (fldCmp_one e2 a b)
    have n2 : (f == 2) = false := by simpa using e2
    clear e2
    by_cases e1 : f = 1
    · subst e1
      go_enter Try.func143, Try.ntmps143
      go_wp2_with (go_at_call 151; refine (cmp16_c _ _ _).mono ?_; rintro _ w1 ⟨rfl, rfl⟩)
      go_ret
      exact ⟨ret_int HV.out.symm, balloc (balloc (Below.refl _ _) _) _⟩
    · by_cases e3 : f = 3
      · subst e3
        go_enter Try.func143, Try.ntmps143
        go_wp2_with (go_at_call 151; refine (cmp16_c _ _ _).mono ?_; rintro _ w1 ⟨rfl, rfl⟩)
        go_ret
        exact ⟨ret_int HV.out.symm, balloc (balloc (Below.refl _ _) _) _⟩
      · by_cases e4 : f = 4
        · subst e4
          go_enter Try.func143, Try.ntmps143
          go_wp2_with (go_at_call 151; refine (cmp16_c _ _ _).mono ?_; rintro _ w1 ⟨rfl, rfl⟩)
          go_ret
          exact ⟨ret_int HV.out.symm, balloc (balloc (Below.refl _ _) _) _⟩
        · by_cases e5 : f = 5
          · subst e5
            go_enter Try.func143, Try.ntmps143
            go_wp2_with (go_at_call 151; refine (cmp16_c _ _ _).mono ?_; rintro _ w1 ⟨rfl, rfl⟩)
            go_ret
            exact ⟨ret_int HV.out.symm, balloc (balloc (Below.refl _ _) _) _⟩
          · have HE := Aside0.mk (show num0 f a = a.wt ∧ num0 f b = b.wt by unfold num0; simp [e1, e3, e4, e5]; simp at n2; simp [n2])
            have n1 : (f == 1) = false := by simpa using e1
            have n3 : (f == 3) = false := by simpa using e3
            have n4 : (f == 4) = false := by simpa using e4
            have n5 : (f == 5) = false := by simpa using e5
            clear e1 e3 e4 e5
            go_enter Try.func143, Try.ntmps143
            go_wp2_with (go_at_call 151; refine (cmp16_c _ _ _).mono ?_; rintro _ w1 ⟨rfl, rfl⟩)
            go_ret
            exact ⟨ret_int (by rw [HV.out, HE.out.1, HE.out.2]), balloc (balloc (Below.refl _ _) _) _⟩
end Go.Proofs.Ytgdhopcbiekhhaa
