/- Comparing two books by an order: the program's and the reference's words up to one field. -/
import Derived.Test.YtgdhopcbiekhhaaBook
import Derived.StillTailTactics
import Derived.Still
namespace Go.Proofs.Ytgdhopcbiekhhaa
open Go.RowKit Go.Proofs.YtgdhopcbiekhhaaW.PrintWords Go.Proofs.YtgdhopcbiekhhaaW.PrintMore
set_option linter.unusedVariables false
set_option linter.unusedSimpArgs false
set_option maxRecDepth 100000

/-- cmp.Compare of whole numbers. -/
def cmpI (x y : Int) : Int := if x < y then -1 else if y < x then 1 else 0
theorem cmpI_lt {x y : Int} (h : x < y) : cmpI x y = -1 := by unfold cmpI; rw [if_pos h]
theorem cmpI_gt {x y : Int} (h : y < x) : cmpI x y = 1 := by unfold cmpI; rw [if_neg (by omega), if_pos h]
theorem cmpI_eq {x y : Int} (h : x = y) : cmpI x y = 0 := by unfold cmpI; rw [if_neg (by omega), if_neg (by omega)]
theorem cmpI_zero {x y : Int} : cmpI x y = 0 ↔ x = y := by unfold cmpI; split <;> (try split) <;> omega
theorem cmpI_three (x y : Int) : cmpI x y = -1 ∨ cmpI x y = 0 ∨ cmpI x y = 1 := by unfold cmpI; split <;> (try split) <;> simp
/-- Three pairs of numbers, the first that differs. -/
def cmp3 (x0 x1 x2 y0 y1 y2 : Int) : Int := if x0 = y0 then (if x1 = y1 then cmpI x2 y2 else cmpI x1 y1) else cmpI x0 y0
/-- What field f of a book is: three numbers. -/
def num0 (f : Int) (b : Bk) : Int := if f = 1 then b.c else if f = 2 then b.m0 else if f = 3 then b.v else if f = 4 then b.wd else if f = 5 then b.h else b.wt
def num1 (f : Int) (b : Bk) : Int := if f = 2 then b.m1 else 0
def num2 (f : Int) (b : Bk) : Int := if f = 2 then b.m2 else 0
def fldCmp (f : Int) (a b : Bk) : Int := cmp3 (num0 f a) (num1 f a) (num2 f a) (num0 f b) (num1 f b) (num2 f b)
theorem fldCmp_one {f : Int} (h : f ≠ 2) (a b : Bk) : fldCmp f a b = cmpI (num0 f a) (num0 f b) := by
  unfold fldCmp cmp3
  rw [show num1 f a = 0 by unfold num1; rw [if_neg h], show num1 f b = 0 by unfold num1; rw [if_neg h], show num2 f a = 0 by unfold num2; rw [if_neg h], show num2 f b = 0 by unfold num2; rw [if_neg h], if_pos rfl]
  by_cases e : num0 f a = num0 f b
  · rw [if_pos e, cmpI_eq e]; rfl
  · rw [if_neg e]
/-- A number without its sign, at eight bits. -/
def absF (f : Int) : Int := if f < 0 then (if f = -128 then -128 else -f) else f
def I8 (x : Int) : Prop := -128 ≤ x ∧ x ≤ 127
theorem wrap8neg {n : Int} (h : I8 n) : IntKind.i8.wrap (-n) = if n = -128 then -128 else -n := by
  obtain ⟨h1, h2⟩ := h
  by_cases e : n = -128
  · subst e; decide
  · rw [if_neg e]; simp only [IntKind.wrap, IntKind.bits, IntKind.signed, Bool.true_and, decide_eq_true_eq, ge_iff_le]; split <;> omega
theorem field_c (n : Int) (h : I8 n) (w : World) : Calls Try.prog 91 #[.int .i8 n] w (RetS w (.int .i8 (absF n))) := by
  have HW := Aside0.mk (wrap8neg h)
  obtain ⟨h1, h2⟩ := h
  go_enter Try.func91, Try.ntmps91
  go_wp2
  all_goals (go_ret; refine ⟨ret_int ?_, rfl⟩; unfold absF; have hw := HW.out; (repeat' split at *) <;> omega)
theorem l01Field_c (n : Int) (h : I8 n) (w : World) : Calls Try.prog 135 #[.int .i8 n] w (RetS w (.int .i8 (absF n))) := by
  have HW := Aside0.mk (wrap8neg h)
  obtain ⟨h1, h2⟩ := h
  go_enter Try.func135, Try.ntmps135
  go_wp2
  all_goals (go_ret; refine ⟨ret_int ?_, rfl⟩; unfold absF; have hw := HW.out; (repeat' split at *) <;> omega)
theorem isNaN16_c (n : Int) (w : World) : Calls Try.prog 158 #[.int .i16 n] w (RetS w (.bool false)) := by
  go_enter Try.func158, Try.ntmps158
  go_wp2
  all_goals (go_ret; exact ⟨rfl, rfl⟩)
theorem isNaN8_c (n : Int) (w : World) : Calls Try.prog 162 #[.int .u8 n] w (RetS w (.bool false)) := by
  go_enter Try.func162, Try.ntmps162
  go_wp2
  all_goals (go_ret; exact ⟨rfl, rfl⟩)
theorem cmp16_c (x y : Int) (w : World) : Calls Try.prog 151 #[.int .i16 x, .int .i16 y] w (RetS w (.int .i64 (cmpI x y))) := by
  go_enter Try.func151, Try.ntmps151
  go_wp2_with (go_at_call 158; refine (isNaN16_c _ _).mono ?_; rintro _ w1 ⟨rfl, rfl⟩)
  all_goals (go_ret; refine ⟨ret_int ?_, rfl⟩; unfold cmpI; split <;> (try split) <;> omega)
theorem cmp8_c (x y : Int) (w : World) : Calls Try.prog 159 #[.int .u8 x, .int .u8 y] w (RetS w (.int .i64 (cmpI x y))) := by
  go_enter Try.func159, Try.ntmps159
  go_wp2_with (go_at_call 162; refine (isNaN8_c _ _).mono ?_; rintro _ w1 ⟨rfl, rfl⟩)
  all_goals (go_ret; refine ⟨ret_int ?_, rfl⟩; unfold cmpI; split <;> (try split) <;> omega)
end Go.Proofs.Ytgdhopcbiekhhaa
