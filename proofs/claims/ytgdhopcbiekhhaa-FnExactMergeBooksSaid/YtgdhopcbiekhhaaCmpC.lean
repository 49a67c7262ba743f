/- Comparing two books by an order: the program's. -/
import Derived.Test.YtgdhopcbiekhhaaCmpB
import Derived.StillTailTactics
import Derived.Still
namespace Go.Proofs.Ytgdhopcbiekhhaa
open Go.RowKit Go.Proofs.YtgdhopcbiekhhaaW.PrintWords Go.Proofs.YtgdhopcbiekhhaaW.PrintMore
set_option linter.unusedVariables false
set_option linter.unusedSimpArgs false
set_option maxRecDepth 100000

theorem cmp3_three (x0 x1 x2 y0 y1 y2 : Int) : cmp3 x0 x1 x2 y0 y1 y2 = -1 ∨ cmp3 x0 x1 x2 y0 y1 y2 = 0 ∨ cmp3 x0 x1 x2 y0 y1 y2 = 1 := by
  unfold cmp3
  split
  · split
    · exact cmpI_three _ _
    · exact cmpI_three _ _
  · exact cmpI_three _ _
def sgnCmp (f : Int) (a b : Bk) : Int := if f < 0 then -fldCmp (absF f) a b else fldCmp (absF f) a b
def cmpBy : List Int → Bk → Bk → Int
  | [], _, _ => 0
  | f :: r, a, b => if sgnCmp f a b = 0 then cmpBy r a b else sgnCmp f a b
theorem cmpBy_eq {L : List Int} {k : Nat} {x : Int} {a b : Bk} (h : L[k]? = some x) (hz : sgnCmp x a b = 0) : cmpBy (L.drop (k + 1)) a b = cmpBy (L.drop k) a b := by
  obtain ⟨hl, he⟩ := List.getElem?_eq_some_iff.1 h
  rw [List.drop_eq_getElem_cons hl, he, cmpBy, if_pos hz]
theorem cmpBy_ne {L : List Int} {k : Nat} {x : Int} {a b : Bk} (h : L[k]? = some x) (hz : sgnCmp x a b ≠ 0) : cmpBy (L.drop k) a b = sgnCmp x a b := by
  obtain ⟨hl, he⟩ := List.getElem?_eq_some_iff.1 h
  rw [List.drop_eq_getElem_cons hl, he, cmpBy, if_neg hz]
set_option maxHeartbeats 4000000 in
theorem compareBy_c (A : Option Addr) (c : Nat) (L : List Int) (a b : Bk) (w : World) (hL : (Kd.int .i8).C w A L.length L) (hk : ∀ x ∈ L, I8 x) :
    Calls Try.prog 108 #[.slice A L.length c, a.val, b.val] w (Ret w (.int .i64 (cmpBy L a b))) := by
  have hm := Kd.C_max hL
  have HL := Aside0.mk hL
  have HKK := Aside0.mk hk
  clear hL hk
  have HX := Aside0.mk (fun f W => compareIn_c f a b W)
  simp only [Bk.val] at HX ⊢
  have hx0 : ∀ W, Below ((w.alloc (.cells #[.int .i16 a.c, .int .u8 a.m0, .int .u8 a.m1, .int .u8 a.m2, .int .i16 a.v, .int .i16 a.wd, .int .i16 a.h, .int .i16 a.wt] 34)).alloc (.cells #[.int .i16 b.c, .int .u8 b.m0, .int .u8 b.m1, .int .u8 b.m2, .int .i16 b.v, .int .i16 b.wd, .int .i16 b.h, .int .i16 b.wt] 34)).heap.size ((w.alloc (.cells #[.int .i16 a.c, .int .u8 a.m0, .int .u8 a.m1, .int .u8 a.m2, .int .i16 a.v, .int .i16 a.wd, .int .i16 a.h, .int .i16 a.wt] 34)).alloc (.cells #[.int .i16 b.c, .int .u8 b.m0, .int .u8 b.m1, .int .u8 b.m2, .int .i16 b.v, .int .i16 b.wd, .int .i16 b.h, .int .i16 b.wt] 34)) W → Below w.heap.size w W ∧ BkAt W ⟨w.heap.size, 0, none⟩ a ∧ BkAt W ⟨w.heap.size + 1, 0, none⟩ b := by
    intro W h
    have hb := BkAt.box (w.alloc (.cells #[.int .i16 a.c, .int .u8 a.m0, .int .u8 a.m1, .int .u8 a.m2, .int .i16 a.v, .int .i16 a.wd, .int .i16 a.h, .int .i16 a.wt] 34)) b 34
    simp only [World.size_alloc] at hb
    exact ⟨bstep (balloc (balloc (Below.refl _ _) _) _) h, ((BkAt.box w a 34).below (balloc (Below.refl _ _) _)).below h, hb.below h⟩
  have HW := Aside0.mk hx0
  clear hx0
  go_enter Try.func108, Try.ntmps108
  go_wp2
  generalize hW0 : World.alloc (World.alloc w _) _ = W0 at HW ⊢
  have hz0 : W0.heap.size = w.heap.size + 2 := by rw [← hW0]; simp
  clear hW0
  go_loopg [12] L.length (fun gk v wr => ∃ k : Nat, k + gk = L.length ∧ v = .int .i64 k ∧ Aside0 (cmpBy (L.drop k) a b = cmpBy L a b) ∧ Aside0 (Below W0.heap.size W0 wr))
  case atStart => exact ⟨0, by omega, rfl, ⟨by simp⟩, ⟨Below.refl _ _⟩⟩
  case round =>
    obtain ⟨k, hk, rfl, hp, hb⟩ := hrel
    have HK := Aside0.mk hk
    obtain ⟨hbw, ha, hbb⟩ := HW.out _ hb.out
    have HBW := Aside0.mk hbw
    by_cases hlt : k < L.length
    · obtain ⟨ad, x, rfl, hx, hc⟩ := at_int' (Kd.C_below HL.out hbw) k (by omega)
      have HF := Aside0.mk (field_c x (HKK.out x (mem_of hx.out)))
      obtain ⟨p0, p1, p2, p3, p4, p5, p6, p7⟩ := ha
      obtain ⟨q0, q1, q2, q3, q4, q5, q6, q7⟩ := hbb
      clear hk hbw
      have i0 : (0 : Int) ≤ (k : Int) := by omega
      have i1 : (k : Int) < (L.length : Int) := by omega
      have HV := HX.out (absF x)
      go_wp2_with fail
      refine wp_region_still_tail 4 (by kernel_rfl) (by kernel_rfl) ?_
      simp only [List.take_succ_cons, List.take_zero, List.drop_succ_cons, List.drop_zero]
      still_step
      still_call ((HF.out _).mono (fun _ _ h => ⟨h.1, h.2.symm⟩))
      repeat still_step
      refine wpStill_nil ?_
      go_wp2_with fail
      refine (HV _).mono ?_; rintro _ w1 ⟨rfl, hb1⟩
      clear HV p0 p1 p2 p3 p4 p5 p6 p7 q0 q1 q2 q3 q4 q5 q6 q7 hc
      have HB1 := Aside0.mk (bstep (bdrew HBW.out) hb1)
      have HB2 := Aside0.mk (bstep (bdrew hb.out) hb1)
      clear hb1
      have h3 := cmp3_three (num0 (absF x) a) (num1 (absF x) a) (num2 (absF x) a) (num0 (absF x) b) (num1 (absF x) b) (num2 (absF x) b)
      rw [show cmp3 (num0 (absF x) a) (num1 (absF x) a) (num2 (absF x) a) (num0 (absF x) b) (num1 (absF x) b) (num2 (absF x) b) = fldCmp (absF x) a b from rfl] at h3
      by_cases hs : x < 0
      · rcases h3 with h3 | h3 | h3
        · have HR := Aside0.mk (show cmpBy L a b = 1 by rw [← hp.out, cmpBy_ne hx.out (by unfold sgnCmp; rw [if_pos hs, h3]; decide)]; unfold sgnCmp; rw [if_pos hs, h3]; rfl)
          rw [h3]
          clear h3
          go_wp2
          go_ret
          exact ⟨ret_int HR.out.symm, HB1.out⟩
        · have HR := Aside0.mk (show cmpBy (L.drop (k + 1)) a b = cmpBy L a b by rw [← hp.out, cmpBy_eq hx.out (by unfold sgnCmp; rw [if_pos hs, h3]; decide)])
          rw [h3]
          clear h3
          go_wp2
          go_roundg (gk - 1)
          case measure => have := HK.out; omega
          case rel => exact ⟨k + 1, by have := HK.out; omega, by go_num, HR, HB2⟩
        · have HR := Aside0.mk (show cmpBy L a b = -1 by rw [← hp.out, cmpBy_ne hx.out (by unfold sgnCmp; rw [if_pos hs, h3]; decide)]; unfold sgnCmp; rw [if_pos hs, h3])
          rw [h3]
          clear h3
          go_wp2
          go_ret
          exact ⟨ret_int HR.out.symm, HB1.out⟩
      · rcases h3 with h3 | h3 | h3
        · have HR := Aside0.mk (show cmpBy L a b = -1 by rw [← hp.out, cmpBy_ne hx.out (by unfold sgnCmp; rw [if_neg hs, h3]; decide)]; unfold sgnCmp; rw [if_neg hs, h3])
          rw [h3]
          clear h3
          go_wp2
          go_ret
          exact ⟨ret_int HR.out.symm, HB1.out⟩
        · have HR := Aside0.mk (show cmpBy (L.drop (k + 1)) a b = cmpBy L a b by rw [← hp.out, cmpBy_eq hx.out (by unfold sgnCmp; rw [if_neg hs, h3])])
          rw [h3]
          clear h3
          go_wp2
          go_roundg (gk - 1)
          case measure => have := HK.out; omega
          case rel => exact ⟨k + 1, by have := HK.out; omega, by go_num, HR, HB2⟩
        · have HR := Aside0.mk (show cmpBy L a b = 1 by rw [← hp.out, cmpBy_ne hx.out (by unfold sgnCmp; rw [if_neg hs, h3]; decide)]; unfold sgnCmp; rw [if_neg hs, h3])
          rw [h3]
          clear h3
          go_wp2
          go_ret
          exact ⟨ret_int HR.out.symm, HB1.out⟩
    · have HR := Aside0.mk (show cmpBy L a b = 0 by rw [← hp.out, List.drop_eq_nil_of_le (by omega)]; rfl)
      clear hk
      go_wp2
      go_ret
      exact ⟨ret_int HR.out.symm, HBW.out⟩
end Go.Proofs.Ytgdhopcbiekhhaa
