/- Comparing two books in the usual order: the program's. -/
import Derived.Test.YtgdhopcbiekhhaaCmpC
import Derived.StillTailTactics
import Derived.Still
namespace Go.Proofs.Ytgdhopcbiekhhaa
open Go.RowKit Go.Proofs.YtgdhopcbiekhhaaW.PrintWords Go.Proofs.YtgdhopcbiekhhaaW.PrintMore
set_option linter.unusedVariables false
set_option linter.unusedSimpArgs false
set_option maxRecDepth 100000

theorem three_C (W : World) (g o : Nat) (x y z : Int) (h0 : W.cell? ⟨g, o, none⟩ = some (.int .i8 x)) (h1 : W.cell? ⟨g, o + 1, none⟩ = some (.int .i8 y)) (h2 : W.cell? ⟨g, o + 2, none⟩ = some (.int .i8 z)) :
    (Kd.int .i8).C W (some ⟨g, o, none⟩) [x, y, z].length [x, y, z] := by
  refine ⟨rfl, by simp, fun _ => ⟨_, rfl, fun j p hj => ?_⟩⟩
  match j, hj with
  | 0, hj => cases hj; exact ⟨_, rfl, rfl, fun i u hu => by match i, hu with | 0, hu => cases hu; simpa [Addr.add] using h0⟩
  | 1, hj => cases hj; exact ⟨_, rfl, rfl, fun i u hu => by match i, hu with | 0, hu => cases hu; simpa [Addr.add, Kd.int, Kd.scalar] using h1⟩
  | 2, hj => cases hj; exact ⟨_, rfl, rfl, fun i u hu => by match i, hu with | 0, hu => cases hu; simpa [Addr.add, Kd.int, Kd.scalar] using h2⟩
def usualL : List Int := [1, 2, 3]
theorem usualL_ok : ∀ x ∈ usualL, I8 x := by
  intro x hx
  simp only [usualL, List.mem_cons, List.not_mem_nil, or_false] at hx
  unfold I8
  omega
def cmpU (a b : Bk) : Int := cmpBy usualL a b
def IsUsual (v : Value) (W : World) : Prop := ∃ n, v = .slice (some ⟨n, 0, none⟩) 3 3 ∧ (Kd.int .i8).C W (some ⟨n, 0, none⟩) usualL.length usualL
theorem usual_c (w : World) : Calls Try.prog 133 #[] w (RetQ w IsUsual) := by
  go_enter Try.func133, Try.ntmps133
  go_wp2
  go_ret
  exact ⟨_, rfl, balloc (Below.refl _ _) _, _, rfl, three_C _ _ 0 1 2 3 ((blk_cell (blk_new w _) 0).trans rfl) ((blk_cell (blk_new w _) 1).trans rfl) ((blk_cell (blk_new w _) 2).trans rfl)⟩
theorem box_two (w : World) (a b : Bk) : ∀ W, Below ((w.alloc (.cells #[.int .i16 a.c, .int .u8 a.m0, .int .u8 a.m1, .int .u8 a.m2, .int .i16 a.v, .int .i16 a.wd, .int .i16 a.h, .int .i16 a.wt] 34)).alloc (.cells #[.int .i16 b.c, .int .u8 b.m0, .int .u8 b.m1, .int .u8 b.m2, .int .i16 b.v, .int .i16 b.wd, .int .i16 b.h, .int .i16 b.wt] 34)).heap.size ((w.alloc (.cells #[.int .i16 a.c, .int .u8 a.m0, .int .u8 a.m1, .int .u8 a.m2, .int .i16 a.v, .int .i16 a.wd, .int .i16 a.h, .int .i16 a.wt] 34)).alloc (.cells #[.int .i16 b.c, .int .u8 b.m0, .int .u8 b.m1, .int .u8 b.m2, .int .i16 b.v, .int .i16 b.wd, .int .i16 b.h, .int .i16 b.wt] 34)) W → Below w.heap.size w W ∧ BkAt W ⟨w.heap.size, 0, none⟩ a ∧ BkAt W ⟨w.heap.size + 1, 0, none⟩ b := by
  intro W h
  have hb := BkAt.box (w.alloc (.cells #[.int .i16 a.c, .int .u8 a.m0, .int .u8 a.m1, .int .u8 a.m2, .int .i16 a.v, .int .i16 a.wd, .int .i16 a.h, .int .i16 a.wt] 34)) b 34
  simp only [World.size_alloc] at hb
  exact ⟨bstep (balloc (balloc (Below.refl _ _) _) _) h, ((BkAt.box w a 34).below (balloc (Below.refl _ _) _)).below h, hb.below h⟩
set_option maxHeartbeats 4000000 in
theorem compare_c (a b : Bk) (w : World) : Calls Try.prog 104 #[a.val, b.val] w (Ret w (.int .i64 (cmpU a b))) := by
  have HX := Aside0.mk (fun A c W h => compareBy_c A c usualL a b W h usualL_ok)
  have HW := Aside0.mk (box_two w a b)
  simp only [Bk.val] at HX ⊢
  go_enter Try.func104, Try.ntmps104
  go_wp2_with fail
  generalize hW0 : World.alloc (World.alloc w _) _ = W0 at HW ⊢
  have hz0 : W0.heap.size = w.heap.size + 2 := by rw [← hW0]; simp
  clear hW0
  obtain ⟨hbw, ha, hbb⟩ := HW.out _ (Below.refl _ _)
  obtain ⟨p0, p1, p2, p3, p4, p5, p6, p7⟩ := ha
  obtain ⟨q0, q1, q2, q3, q4, q5, q6, q7⟩ := hbb
  have HBW := Aside0.mk hbw
  clear hbw
  go_region_with (first
    | (go_at_call 133; refine (usual_c _).mono ?_; rintro _ w1 ⟨v, rfl, hb1, n, rfl, hv⟩; have hb1' := hb1; obtain ⟨hc1, hf1⟩ := bcell hb1)
    | (go_at_call 108; refine (HX.out _ _ _ ‹_›).mono ?_; rintro _ w2 ⟨rfl, hb2⟩))
  all_goals (go_wp2_with fail; go_ret; exact ⟨rfl, bstep (bstep (bdrew HBW.out) hb1) hb2⟩)
end Go.Proofs.Ytgdhopcbiekhhaa
