/- Comparing two books in the usual order: the program's CompareBooks and the reference's. -/
import Derived.Test.YtgdhopcbiekhhaaCmpT
import Derived.StillTailTactics
import Derived.Still
namespace Go.Proofs.Ytgdhopcbiekhhaa
open Go.RowKit Go.Proofs.YtgdhopcbiekhhaaW.PrintWords Go.Proofs.YtgdhopcbiekhhaaW.PrintMore
set_option linter.unusedVariables false
set_option linter.unusedSimpArgs false
set_option maxRecDepth 100000

theorem usualL_ord : OrdOk usualL := by
  intro x hx
  refine ⟨usualL_ok x hx, ?_⟩
  simp only [usualL, List.mem_cons, List.not_mem_nil, or_false] at hx
  omega
set_option maxHeartbeats 2000000 in
theorem l01Usual_c (pa pb : Addr) (a b : Bk) (hoa : a.ok) (hob : b.ok) (w : World) (ha : BkAt w pa a) (hb : BkAt w pb b) :
    Calls Try.prog 103 #[.pointer (some pa), .pointer (some pb)] w (Ret w (.int .i64 (cmpU a b))) := by
  have hu := three_C (w.alloc (.cells #[.int .i8 1, .int .i8 2, .int .i8 3] 94)) w.heap.size 0 1 2 3 ((blk_cell (blk_new w _) 0).trans rfl) ((blk_cell (blk_new w _) 1).trans rfl) ((blk_cell (blk_new w _) 2).trans rfl)
  have HX := Aside0.mk (l01Compare_c (some ⟨w.heap.size, 0, none⟩) 3 usualL pa pb a b hoa hob _ hu usualL_ord (ha.below (balloc (Below.refl _ _) _)) (hb.below (balloc (Below.refl _ _) _)))
  clear hu ha hb hoa hob
  go_enter Try.func103, Try.ntmps103
  go_wp2_with fail
  refine HX.out.mono ?_; rintro _ w1 ⟨rfl, hb1⟩
  go_wp2_with fail
  go_ret
  exact ⟨rfl, bstep (balloc (Below.refl _ _) _) hb1⟩
set_option maxHeartbeats 2000000 in
theorem specCompareBooks_c (a b : Bk) (hoa : a.ok) (hob : b.ok) (w : World) : Calls Try.prog 41 #[a.val, b.val] w (Ret w (.int .i64 (cmpU a b))) := by
  obtain ⟨hbw, ha, hb⟩ := box_two w a b _ (Below.refl _ _)
  have HX := Aside0.mk (l01Usual_c _ _ a b hoa hob _ ha hb)
  have HBW := Aside0.mk hbw
  clear hbw ha hb hoa hob
  simp only [Bk.val]
  go_enter Try.func41, Try.ntmps41
  go_wp2_with fail
  refine HX.out.mono ?_; rintro _ w1 ⟨rfl, hb1⟩
  go_wp2_with fail
  go_ret
  exact ⟨rfl, bstep HBW.out hb1⟩
set_option maxHeartbeats 2000000 in
theorem CompareBooks_c (a b : Bk) (w : World) : Calls Try.prog 42 #[a.val, b.val] w (Ret w (.int .i64 (cmpU a b))) := by
  obtain ⟨hbw, ha, hb⟩ := box_two w a b _ (Below.refl _ _)
  have HX := Aside0.mk (fun W => compare_c a b W)
  have HBW := Aside0.mk hbw
  obtain ⟨p0, p1, p2, p3, p4, p5, p6, p7⟩ := ha
  obtain ⟨q0, q1, q2, q3, q4, q5, q6, q7⟩ := hb
  clear hbw
  simp only [Bk.val] at HX ⊢
  go_enter Try.func42, Try.ntmps42
  go_wp2_with fail
  refine (HX.out _).mono ?_; rintro _ w1 ⟨rfl, hb1⟩
  go_wp2_with fail
  go_ret
  exact ⟨rfl, bstep HBW.out hb1⟩
end Go.Proofs.Ytgdhopcbiekhhaa
