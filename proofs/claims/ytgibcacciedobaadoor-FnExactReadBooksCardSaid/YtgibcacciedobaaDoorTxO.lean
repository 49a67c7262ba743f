/- ReadBook of both. -/
import Derived.Test.YtgibcacciedobaaDoorTxJ
import Derived.Test.YtgibcacciedobaaDoorTxU
import Derived.StillTailTactics
import Derived.Still
import Derived.Deep.QuietTactic
import Derived.BigQuiet
namespace Go.Proofs.YtgibcacciedobaaDoor
open Go.RowKit Go.Proofs.YtgibcacciedobaaDoorW.PrintWords Go.Proofs.YtgibcacciedobaaDoorW.PrintMore
set_option linter.unusedVariables false
set_option linter.unusedSimpArgs false
set_option maxRecDepth 100000

noncomputable def bkE (l : Bs) : Int := if bkK l = true then 0 else 5
theorem bk_zero {l : Bs} (h : bkK l = false) : bkV l = Bk0 := by
  by_cases hx : ∃ b, RdB l b
  · obtain ⟨b, hb⟩ := hx
    rw [(bk_ok hb).2] at h
    cases h
  · exact (bk_no (fun b hb => hx ⟨b, hb⟩)).1
theorem ret_bkE {a b : Bk} {c d : Int} (h : a = b) (k : c = d) : Ending.returned (.tuple #[a.val, .int .i64 c]) = .returned (.tuple #[b.val, .int .i64 d]) := by rw [h, k]
set_option maxHeartbeats 4000000 in
theorem ReadBook_c (l : Bs) (hl : l.length ≤ 1048576) (w : World) (ht : Txt w) : Calls Tryd.prog 20 #[.string (bS l)] w (Ret w (.tuple #[(bkV l).val, .int .i64 (bkE l)])) := by
  have hb0 : Below w.heap.size w (w.alloc (.cells #[.int .i16 0, .int .u8 0, .int .u8 0, .int .u8 0, .int .i16 0, .int .i16 0, .int .i16 0, .int .i16 0] 27)) := balloc (Below.refl _ _) _
  have hbx := blk_new w (.cells #[.int .i16 0, .int .u8 0, .int .u8 0, .int .u8 0, .int .i16 0, .int .i16 0, .int .i16 0, .int .i16 0] 27)
  have HR := Aside0.mk (fun W h => readBook_c l hl W h)
  have HT := Aside0.mk (ht.below hb0)
  clear ht
  simp only [Bk.val] at HR
  cases hk : bkK l
  · have HN := Aside0.mk (show bkV l = Bk0 ∧ bkE l = 5 from ⟨bk_zero hk, by unfold bkE; rw [hk]; rfl⟩)
    rw [hk] at HR
    clear hk
    generalize rbV l = b at HR
    go_enter Tryd.func20, Tryd.ntmps20
    go_wp2_with fail
    generalize World.alloc w _ = W1 at hbx hb0 HT ⊢
    refine (HR.out W1 HT.out).mono ?_; rintro _ w1 ⟨rfl, hb1⟩
    have HB1 := Aside0.mk (bstep hb0 hb1)
    have hx1 := blk_alloc (blk_below hbx hb1) (.cells #[.int .i16 b.c, .int .u8 b.m0, .int .u8 b.m1, .int .u8 b.m2, .int .i16 b.v, .int .i16 b.wd, .int .i16 b.h, .int .i16 b.wt] 27)
    clear hb1 hbx HT hb0
    have c0 := blk_cell hx1 0
    have f0 := blk_frozen hx1 0
    have c1 := blk_cell hx1 1
    have f1 := blk_frozen hx1 1
    have c2 := blk_cell hx1 2
    have f2 := blk_frozen hx1 2
    have c3 := blk_cell hx1 3
    have f3 := blk_frozen hx1 3
    have c4 := blk_cell hx1 4
    have f4 := blk_frozen hx1 4
    have c5 := blk_cell hx1 5
    have f5 := blk_frozen hx1 5
    have c6 := blk_cell hx1 6
    have f6 := blk_frozen hx1 6
    have c7 := blk_cell hx1 7
    have f7 := blk_frozen hx1 7
    simp only [List.getElem?_toArray, List.getElem?_cons_zero, List.getElem?_cons_succ] at c0 c1 c2 c3 c4 c5 c6 c7
    go_wp2
    refine bodyPost_ret (v := .tuple #[Bk0.val, .int .i64 5]) (by simp [results, Tryd.results20, go_sem, c0, c1, c2, c3, c4, c5, c6, c7, f0, f1, f2, f3, f4, f5, f6, f7, Bk.val]) rfl ⟨ret_bkE HN.out.1.symm HN.out.2.symm, ?_⟩
    repeat (refine Below.setCell ?_ (by simp) _)
    exact balloc HB1.out _
  · have HN := Aside0.mk (show bkV l = rbV l ∧ bkE l = 0 from ⟨(rb_ok hk).symm, by unfold bkE; rw [hk]; rfl⟩)
    rw [hk] at HR
    clear hk
    generalize rbV l = b at HR HN
    go_enter Tryd.func20, Tryd.ntmps20
    go_wp2_with fail
    generalize World.alloc w _ = W1 at hbx hb0 HT ⊢
    refine (HR.out W1 HT.out).mono ?_; rintro _ w1 ⟨rfl, hb1⟩
    have HB1 := Aside0.mk (bstep hb0 hb1)
    have hx1 := blk_alloc (blk_below hbx hb1) (.cells #[.int .i16 b.c, .int .u8 b.m0, .int .u8 b.m1, .int .u8 b.m2, .int .i16 b.v, .int .i16 b.wd, .int .i16 b.h, .int .i16 b.wt] 27)
    clear hb1 hbx HT hb0
    have c0 := blk_cell hx1 0
    have f0 := blk_frozen hx1 0
    have c1 := blk_cell hx1 1
    have f1 := blk_frozen hx1 1
    have c2 := blk_cell hx1 2
    have f2 := blk_frozen hx1 2
    have c3 := blk_cell hx1 3
    have f3 := blk_frozen hx1 3
    have c4 := blk_cell hx1 4
    have f4 := blk_frozen hx1 4
    have c5 := blk_cell hx1 5
    have f5 := blk_frozen hx1 5
    have c6 := blk_cell hx1 6
    have f6 := blk_frozen hx1 6
    have c7 := blk_cell hx1 7
    have f7 := blk_frozen hx1 7
    simp only [List.getElem?_toArray, List.getElem?_cons_zero, List.getElem?_cons_succ] at c0 c1 c2 c3 c4 c5 c6 c7
    go_wp2
    refine bodyPost_ret (v := .tuple #[b.val, .int .i64 0]) (by simp [results, Tryd.results20, go_sem, c0, c1, c2, c3, c4, c5, c6, c7, f0, f1, f2, f3, f4, f5, f6, f7, Bk.val]) rfl ⟨ret_bkE HN.out.1.symm HN.out.2.symm, ?_⟩
    repeat (refine Below.setCell ?_ (by simp) _)
    exact balloc HB1.out _
end Go.Proofs.YtgibcacciedobaaDoor
