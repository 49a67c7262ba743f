/- Comparing two books: the reference's. -/
import Derived.Test.YtgdhopcbiekhhaaSpecBook
import Derived.Test.YtgdhopcbiekhhaaCmpC
import Derived.StillTailTactics
import Derived.Still
namespace Go.Proofs.Ytgdhopcbiekhhaa
open Go.RowKit Go.Proofs.YtgdhopcbiekhhaaW.PrintWords Go.Proofs.YtgdhopcbiekhhaaW.PrintMore
set_option linter.unusedVariables false
set_option linter.unusedSimpArgs false
set_option maxRecDepth 100000

def nums (f : Int) (b : Bk) : Value := .agg #[.int .i64 (num0 f b), .int .i64 (num1 f b), .int .i64 (num2 f b)]
theorem nums_one {f : Int} (h : f ≠ 2) (b : Bk) : nums f b = .agg #[.int .i64 (num0 f b), .int .i64 0, .int .i64 0] := by
  unfold nums num1 num2
  rw [if_neg h, if_neg h]
set_option maxHeartbeats 4000000 in
theorem l01Numbers_c (f : Int) (b : Bk) (hok : b.ok) (a : Addr) (w : World) (ha : BkAt w a b) : Calls Try.prog 142 #[.pointer (some a), .int .i8 f] w (Ret w (nums f b)) := by
  obtain ⟨⟨i0, i0'⟩, ⟨i1, i1'⟩, ⟨i2, i2'⟩, ⟨i3, i3'⟩, ⟨i4, i4'⟩, ⟨i5, i5'⟩, ⟨i6, i6'⟩, i7, i7'⟩ := hok
  have hlt := ha.lt
  obtain ⟨x0, x1, x2, x3, x4, x5, x6, x7⟩ := ha
  by_cases e2 : f = 2
  · subst e2
    go_enter Try.func142, Try.ntmps142
    go_wp2_with fail
    refine wp_region_still_tail 19 (by kernel_rfl) (by kernel_rfl) ?_
    change wpStill _ _ (World.drew (w.alloc (.cells #[.int .i64 0, .int .i64 0, .int .i64 0] 51))) _ _ _
    simp only [List.take_succ_cons, List.take_zero, List.drop_succ_cons, List.drop_zero]
    repeat still_step
    refine wpStill_nil ?_
    change wpList _ _ _ _ _ (World.drew (w.alloc (.cells #[.int .i64 0, .int .i64 0, .int .i64 0] 51)))
    go_wp2_with fail
    refine bodyPost_ret (v := .agg #[.int .i64 b.m0, .int .i64 b.m1, .int .i64 b.m2]) (by simp [results, Try.results142, go_sem]) rfl ⟨rfl, ?_⟩
    first | exact balloc (Below.refl _ _) _ | exact bdrew (balloc (Below.refl _ _) _)
  · rw [nums_one e2]
    by_cases e1 : f = 1
    · subst e1
      go_enter Try.func142, Try.ntmps142
      go_wp2
      refine bodyPost_ret (v := .agg #[.int .i64 b.c, .int .i64 0, .int .i64 0]) (by simp [results, Try.results142, go_sem]) rfl ⟨rfl, ?_⟩
      first | exact balloc (Below.refl _ _) _ | exact bdrew (balloc (Below.refl _ _) _)
    · skip
      by_cases e3 : f = 3
      · subst e3
        go_enter Try.func142, Try.ntmps142
        go_wp2
        refine bodyPost_ret (v := .agg #[.int .i64 b.v, .int .i64 0, .int .i64 0]) (by simp [results, Try.results142, go_sem]) rfl ⟨rfl, ?_⟩
        first | exact balloc (Below.refl _ _) _ | exact bdrew (balloc (Below.refl _ _) _)
      · skip
        by_cases e4 : f = 4
        · subst e4
          go_enter Try.func142, Try.ntmps142
          go_wp2
          refine bodyPost_ret (v := .agg #[.int .i64 b.wd, .int .i64 0, .int .i64 0]) (by simp [results, Try.results142, go_sem]) rfl ⟨rfl, ?_⟩
          first | exact balloc (Below.refl _ _) _ | exact bdrew (balloc (Below.refl _ _) _)
        · skip
          by_cases e5 : f = 5
          · subst e5
            go_enter Try.func142, Try.ntmps142
            go_wp2
            refine bodyPost_ret (v := .agg #[.int .i64 b.h, .int .i64 0, .int .i64 0]) (by simp [results, Try.results142, go_sem]) rfl ⟨rfl, ?_⟩
            first | exact balloc (Below.refl _ _) _ | exact bdrew (balloc (Below.refl _ _) _)
          · skip
            have HE := Aside0.mk (show num0 f b = b.wt by unfold num0; rw [if_neg e1, if_neg e2, if_neg e3, if_neg e4, if_neg e5])
            have n2 : (f == 2) = false := by simpa using e2
            have n1 : (f == 1) = false := by simpa using e1
            have n3 : (f == 3) = false := by simpa using e3
            have n4 : (f == 4) = false := by simpa using e4
            have n5 : (f == 5) = false := by simpa using e5
            clear e1 e2 e3 e4 e5
            go_enter Try.func142, Try.ntmps142
            go_wp2
            refine bodyPost_ret (v := .agg #[.int .i64 b.wt, .int .i64 0, .int .i64 0]) (by simp [results, Try.results142, go_sem]) rfl ⟨by rw [HE.out], ?_⟩
            first | exact balloc (Below.refl _ _) _ | exact bdrew (balloc (Below.refl _ _) _)
end Go.Proofs.Ytgdhopcbiekhhaa
