/- The law FnExactBookText returns true of every input. -/
import Derived.Test.YtgibcacciedobaaDoorTxW
import Derived.Test.YtgibcacciedobaaDoorTo
import Derived.StillTailTactics
import Derived.Still
import Derived.Deep.QuietTactic
import Derived.BigQuiet
namespace Go.Proofs.YtgibcacciedobaaDoor
open Go.RowKit Go.Proofs.YtgibcacciedobaaDoorW.PrintWords Go.Proofs.YtgibcacciedobaaDoorW.PrintMore
set_option linter.unusedVariables false
set_option linter.unusedSimpArgs false
set_option maxRecDepth 100000

def tB (b : Bk) : ByteArray := if vBook b = true then bS (bkT b) else ⟨#[]⟩
set_option maxHeartbeats 2000000 in
theorem BookText_c (b : Bk) (w : World) (ht : Tab w) : Calls Tryd.prog 13 #[b.val] w (Ret w (.string (tB b))) := by
  have hbx := BkAt.box w b 27
  have hb0 : Below w.heap.size w (w.alloc (.cells #[.int .i16 b.c, .int .u8 b.m0, .int .u8 b.m1, .int .u8 b.m2, .int .i16 b.v, .int .i16 b.wd, .int .i16 b.h, .int .i16 b.wt] 27)) := balloc (Below.refl _ _) _
  have HT := Aside0.mk ht
  have HI := Aside0.mk (fun W => ValidBook_c b W)
  simp only [Bk.val] at HI ⊢
  clear ht
  cases hv : vBook b
  · have HV := Aside0.mk (show tB b = ⟨#[]⟩ by unfold tB; rw [hv]; rfl)
    rw [hv] at HI
    clear hv
    go_enter Tryd.func13, Tryd.ntmps13
    go_wp2_with fail
    generalize World.alloc w _ = W1 at hbx hb0 ⊢
    generalize w.heap.size = g at hbx ⊢
    have HB0 := Aside0.mk hb0
    obtain ⟨c0, c1, c2, c3, c4, c5, c6, c7⟩ := hbx
    clear hb0
    go_wp2_with (go_at_call 46; refine (HI.out _).mono ?_; rintro _ w2 ⟨rfl, hb2⟩)
    go_ret
    exact ⟨ret_str HV.out.symm, bstep HB0.out hb2⟩
  · have HV := Aside0.mk (show tB b = bS (bkT b) by unfold tB; rw [hv]; rfl)
    have HC := Aside0.mk (fun W h => bookText_c b (vB1 hv) W h)
    rw [hv] at HI
    simp only [Bk.val] at HC
    clear hv
    go_enter Tryd.func13, Tryd.ntmps13
    go_wp2_with fail
    generalize World.alloc w _ = W1 at hbx hb0 ⊢
    generalize w.heap.size = g at hbx ⊢
    have HB0 := Aside0.mk hb0
    have HX := Aside0.mk hbx
    obtain ⟨c0, c1, c2, c3, c4, c5, c6, c7⟩ := hbx
    clear hb0
    go_wp2_with fail
    refine (HI.out _).mono ?_; rintro _ w2 ⟨rfl, hb2⟩
    have HB2 := Aside0.mk (bstep HB0.out hb2)
    clear c0 c1 c2 c3 c4 c5 c6 c7
    obtain ⟨c0, c1, c2, c3, c4, c5, c6, c7⟩ := HX.out.below hb2
    clear hb2
    go_wp2_with fail
    refine (HC.out _ (HT.out.below HB2.out)).mono ?_; rintro _ w3 ⟨rfl, hb3⟩
    go_wp2
    go_ret
    exact ⟨ret_str HV.out.symm, bstep HB2.out hb3⟩
set_option maxHeartbeats 2000000 in
theorem specBookText_c (b : Bk) (hok : b.ok) (w : World) : Calls Tryd.prog 11 #[b.val] w (Ret w (.string (tB b))) := by
  have hbx := BkAt.box w b 27
  have hb0 : Below w.heap.size w (w.alloc (.cells #[.int .i16 b.c, .int .u8 b.m0, .int .u8 b.m1, .int .u8 b.m2, .int .i16 b.v, .int .i16 b.wd, .int .i16 b.h, .int .i16 b.wt] 27)) := balloc (Below.refl _ _) _
  have HI := Aside0.mk (fun a W h => l01Book_c b hok a W h)
  simp only [Bk.val]
  clear hok
  cases hv : vBook b
  · have HV := Aside0.mk (show tB b = ⟨#[]⟩ by unfold tB; rw [hv]; rfl)
    rw [hv] at HI
    clear hv
    go_enter Tryd.func11, Tryd.ntmps11
    go_wp2_with fail
    generalize World.alloc w _ = W1 at hbx hb0 ⊢
    generalize w.heap.size = g at hbx ⊢
    refine (HI.out _ _ hbx).mono ?_; rintro _ w2 ⟨rfl, hb2⟩
    have HB2 := Aside0.mk (bstep hb0 hb2)
    clear hb0 hb2 hbx
    go_wp2
    go_ret
    exact ⟨ret_str HV.out.symm, HB2.out⟩
  · have HV := Aside0.mk (show tB b = bS (bkT b) by unfold tB; rw [hv]; rfl)
    have HC := Aside0.mk (fun a W h => l01Text_c b (vB1 hv) a W h)
    rw [hv] at HI
    clear hv
    go_enter Tryd.func11, Tryd.ntmps11
    go_wp2_with fail
    generalize World.alloc w _ = W1 at hbx hb0 ⊢
    generalize w.heap.size = g at hbx ⊢
    refine (HI.out _ _ hbx).mono ?_; rintro _ w2 ⟨rfl, hb2⟩
    have HB2 := Aside0.mk (bstep hb0 hb2)
    have HX := Aside0.mk (hbx.below hb2)
    clear hb0 hb2 hbx
    go_wp2_with fail
    refine (HC.out _ _ HX.out).mono ?_; rintro _ w3 ⟨rfl, hb3⟩
    go_wp2
    go_ret
    exact ⟨ret_str HV.out.symm, bstep HB2.out hb3⟩
set_option maxHeartbeats 2000000 in
theorem FnExactBookText_c (b : Bk) (hok : b.ok) (w : World) (ht : Tab w) : Calls Tryd.prog 3 #[b.val] w (Ret w (.bool true)) := by
  have hbx := BkAt.box w b 25
  have hb0 : Below w.heap.size w (w.alloc (.cells #[.int .i16 b.c, .int .u8 b.m0, .int .u8 b.m1, .int .u8 b.m2, .int .i16 b.v, .int .i16 b.wd, .int .i16 b.h, .int .i16 b.wt] 25)) := balloc (Below.refl _ _) _
  have HS := Aside0.mk (fun W => specBookText_c b hok W)
  have HC := Aside0.mk (fun W h => BookText_c b W h)
  have HO := Aside0.mk (fun W => toBook_c b W)
  have HT := Aside0.mk ht
  simp only [Bk.val] at HS HC HO ⊢
  generalize tB b = s at HS HC
  clear ht hok
  go_enter Tryd.func3, Tryd.ntmps3
  go_wp2_with fail
  generalize World.alloc w _ = W1 at hbx hb0 ⊢
  generalize w.heap.size = g at hbx ⊢
  have HB0 := Aside0.mk hb0
  have HX := Aside0.mk hbx
  clear hb0 hbx
  refine (HO.out _).mono ?_; rintro _ w2 ⟨rfl, hb2⟩
  have HB2 := Aside0.mk (bstep HB0.out hb2)
  have HX2 := Aside0.mk (HX.out.below hb2)
  clear hb2
  go_wp2_with fail
  refine (HS.out _).mono ?_; rintro _ w3 ⟨rfl, hb3⟩
  have HB3 := Aside0.mk (bstep HB2.out hb3)
  obtain ⟨c0, c1, c2, c3, c4, c5, c6, c7⟩ := HX2.out.below hb3
  clear hb3
  go_wp2_with fail
  refine (HO.out _).mono ?_; rintro _ w4 ⟨rfl, hb4⟩
  have HB4 := Aside0.mk (bstep HB3.out hb4)
  clear hb4 c0 c1 c2 c3 c4 c5 c6 c7
  go_wp2_with fail
  refine (HC.out _ (HT.out.below HB4.out)).mono ?_; rintro _ w5 ⟨rfl, hb5⟩
  have HB5 := Aside0.mk (bstep HB4.out hb5)
  clear hb5
  go_wp2
  go_ret
  exact ⟨rfl, HB5.out⟩
end Go.Proofs.YtgibcacciedobaaDoor
