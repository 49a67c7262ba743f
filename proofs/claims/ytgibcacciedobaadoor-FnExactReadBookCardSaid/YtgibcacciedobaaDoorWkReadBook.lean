/- The law FnExactReadBook returns true of every input. -/
import Derived.Test.YtgibcacciedobaaDoorTxO
import Derived.Test.YtgibcacciedobaaDoorTxX
import Derived.Test.YtgibcacciedobaaDoorEq
namespace Go.Proofs.YtgibcacciedobaaDoor
open Go.RowKit Go.Proofs.YtgibcacciedobaaDoorW.PrintWords Go.Proofs.YtgibcacciedobaaDoorW.PrintMore
set_option linter.unusedVariables false
set_option linter.unusedSimpArgs false
set_option maxRecDepth 100000

set_option maxHeartbeats 4000000 in
theorem FnExactReadBook_c (s0 : ByteArray) (hs0 : s0.size ≤ maxLen) (w : World) (ht : Txt w) :
    Calls Tryd.prog 5 #[.string s0] w (Ret w (.bool true)) := by
  have HT := Aside0.mk ht
  clear ht
  obtain ⟨l, rfl⟩ : ∃ l : Bs, s0 = bS l := ⟨_, (bS_of s0).symm⟩
  have hsz : (bS l).size = l.length := bS_size l
  by_cases hlt0 : 1048576 < l.length
  · have hlti0 : (1048576 : Int) < (l.length : Int) := by omega
    go_enter Tryd.func5, Tryd.ntmps5
    go_wp2_with fail
    go_ret
    exact ⟨rfl, Below.refl _ _⟩
  · have hle0 : ¬ (1048576 : Int) < (l.length : Int) := by omega
    have hl : l.length ≤ 1048576 := by omega
    have HSP := Aside0.mk (fun (W : World) => specReadBook_c l hl W)
    have HIM := Aside0.mk (fun (W : World) (ht : Txt W) => ReadBook_c l hl W ht)
    generalize bkE l = e at HSP HIM
    generalize bkV l = b at HSP HIM
    have HE := Aside0.mk (fun W => eqBook_c b b W)
    rw [decide_eq_true rfl] at HE
    have he : (e != e) = false := by simp
    simp only [Bk.val] at HSP HIM HE
    go_enter Tryd.func5, Tryd.ntmps5
    go_wp2_with fail
    refine (HSP.out _).mono ?_; rintro _ w1 ⟨rfl, hb1⟩
    have HB1 := Aside0.mk (balloc hb1 (.cells #[.int .i16 b.c, .int .u8 b.m0, .int .u8 b.m1, .int .u8 b.m2, .int .i16 b.v, .int .i16 b.wd, .int .i16 b.h, .int .i16 b.wt] 27))
    have hx1 := blk_new w1 (.cells #[.int .i16 b.c, .int .u8 b.m0, .int .u8 b.m1, .int .u8 b.m2, .int .i16 b.v, .int .i16 b.wd, .int .i16 b.h, .int .i16 b.wt] 27)
    clear hb1
    go_wp2_with fail
    generalize World.alloc w1 _ = W1 at hx1 HB1 ⊢
    generalize w1.heap.size = g1 at hx1 ⊢
    refine (HIM.out _ (HT.out.below HB1.out)).mono ?_; rintro _ w2 ⟨rfl, hb2⟩
    have HB2 := Aside0.mk (balloc (bstep HB1.out hb2) (.cells #[.int .i16 b.c, .int .u8 b.m0, .int .u8 b.m1, .int .u8 b.m2, .int .i16 b.v, .int .i16 b.wd, .int .i16 b.h, .int .i16 b.wt] 27))
    have hx2 := blk_below hx1 hb2
    have hlt := blk_lt hx2
    have hne := Nat.ne_of_lt hlt
    have hne' := Nat.ne_of_gt hlt
    clear hb2 hx1
    have c0 := blk_cell hx2 0
    have f0 := blk_frozen hx2 0
    have c1 := blk_cell hx2 1
    have f1 := blk_frozen hx2 1
    have c2 := blk_cell hx2 2
    have f2 := blk_frozen hx2 2
    have c3 := blk_cell hx2 3
    have f3 := blk_frozen hx2 3
    have c4 := blk_cell hx2 4
    have f4 := blk_frozen hx2 4
    have c5 := blk_cell hx2 5
    have f5 := blk_frozen hx2 5
    have c6 := blk_cell hx2 6
    have f6 := blk_frozen hx2 6
    have c7 := blk_cell hx2 7
    have f7 := blk_frozen hx2 7
    simp only [List.getElem?_toArray, List.getElem?_cons_zero, List.getElem?_cons_succ] at c0 c1 c2 c3 c4 c5 c6 c7
    clear f0 f1 f2 f3 f4 f5 f6 f7 hx2
    go_wp2_with fail
    refine (HE.out _).mono ?_; rintro _ w3 ⟨rfl, hb3⟩
    go_wp2
    go_ret
    exact ⟨rfl, bstep HB2.out hb3⟩
end Go.Proofs.YtgibcacciedobaaDoor
