/- The totals of a row of books: the program's totals. -/
import Derived.Test.YtdippdkneeocfaaValid
import Derived.StillTailTactics
import Derived.Still
namespace Go.Proofs.Ytdippdkneeocfaa
open Go.RowKit Go.Proofs.YtdippdkneeocfaaW.PrintWords Go.Proofs.YtdippdkneeocfaaW.PrintMore
set_option linter.unusedVariables false
set_option linter.unusedSimpArgs false
set_option maxRecDepth 100000

structure T3 where
  x : Int
  y : Int
  z : Int
def mx (x y : Int) : Int := if x < y then y else x
def T3.step (t : T3) (b : Bk) : T3 := ⟨wrap64 (t.x + b.wd), mx t.y b.h, wrap64 (t.z + b.wt)⟩
def T3.cells (t : T3) : Array Value := #[.int .i64 t.x, .int .i64 t.y, .int .i64 t.z]
def totL (L : List Bk) : T3 := L.foldl T3.step ⟨0, 0, 0⟩
theorem totL_next {L : List Bk} {k : Nat} {b : Bk} (h : L[k]? = some b) : totL (L.take (k + 1)) = (totL (L.take k)).step b := by
  unfold totL
  rw [take_snoc h, List.foldl_append]
  rfl
set_option maxHeartbeats 4000000 in
theorem totals_c (A : Option Addr) (c : Nat) (L : List Bk) (hok : ∀ b ∈ L, b.ok) (w : World) (hL : kBk.C w A L.length L) : Calls Try.prog 138 #[.slice A L.length c] w (Ret w (.agg (totL L).cells)) := by
  have hm := Kd.C_max hL
  have HL := Aside0.mk hL
  have HO := Aside0.mk hok
  clear hL hok
  go_enter Try.func138, Try.ntmps138
  go_wp2
  have hb1 := blk_alloc (blk_new w (.cells #[.int .i64 0, .int .i64 0, .int .i64 0] 130)) (.cells #[.int .i64 0, .int .i64 0, .int .i64 0] 130)
  have hb2 := blk_new (w.alloc (.cells #[.int .i64 0, .int .i64 0, .int .i64 0] 130)) (.cells #[.int .i64 0, .int .i64 0, .int .i64 0] 130)
  rw [World.size_alloc] at hb2
  have H1 := Aside0.mk hb1
  have H2 := Aside0.mk hb2
  have HB := Aside0.mk (balloc (balloc (Below.refl w.heap.size w) (.cells #[.int .i64 0, .int .i64 0, .int .i64 0] 130)) (.cells #[.int .i64 0, .int .i64 0, .int .i64 0] 130))
  clear hb1 hb2
  generalize World.alloc (World.alloc w _) _ = w2 at H1 H2 HB ⊢
  go_loopg [8] L.length (fun gk v wr => ∃ k : Nat, k + gk = L.length ∧ v = .int .i64 k ∧ Aside0 (wr.heap[w.heap.size]? = some (.cells #[.int .i64 0, .int .i64 0, .int .i64 0] 130 (0, 0))) ∧ Aside0 (wr.heap[w.heap.size + 1]? = some (.cells (totL (L.take k)).cells 130 (0, 0))) ∧ Aside0 (Below w.heap.size w wr))
  case atStart => exact ⟨0, by omega, rfl, H1, ⟨H2.out⟩, HB⟩
  case round =>
    clear H1 H2 HB
    obtain ⟨k, hk, rfl, H1, H2, HB⟩ := hrel
    have HK := Aside0.mk hk
    by_cases hlt : k < L.length
    · obtain ⟨ad, b, rfl, hbk, x0, x1, x2, x3, x4, x5, x6, x7⟩ := at_bk (Kd.C_below HL.out HB.out) k hlt
      have HN := Aside0.mk (totL_next hbk.out)
      obtain ⟨⟨i0, i0'⟩, ⟨i1, i1'⟩, ⟨i2, i2'⟩, ⟨i3, i3'⟩, ⟨i4, i4'⟩, ⟨i5, i5'⟩, ⟨i6, i6'⟩, i7, i7'⟩ := HO.out b (mem_of hbk.out)
      generalize totL (L.take k) = t at H2 HN
      have hl2 := blk_lt H2.out
      have c0 := blk_cell H2.out 0
      have c1 := blk_cell H2.out 1
      have c2 := blk_cell H2.out 2
      have f0 := blk_frozen H2.out 0
      have f1 := blk_frozen H2.out 1
      have f2 := blk_frozen H2.out 2
      simp only [T3.cells, List.getElem?_toArray, List.getElem?_cons_zero, List.getElem?_cons_succ] at c0 c1 c2
      clear hk
      go_wp2
      all_goals
        (go_roundg (gk - 1)
         case measure => have := HK.out; omega
         case rel =>
           refine ⟨k + 1, by have := HK.out; omega, by go_num, ⟨?_⟩, ⟨?_⟩, ⟨?_⟩⟩
           · exact blk_alloc (blk_far (blk_far (blk_far H1.out (by simp) _) (by simp) _) (by simp) _) _
           · rw [HN.out]
             refine blk_alloc (blk_put (blk_put (blk_put H2.out 0 _ rfl) 1 _ rfl) 2 _ ?_) _
             simp [T3.cells, T3.step, mx]
             omega
           · exact balloc (Below.setCell (Below.setCell (Below.setCell HB.out (by simp) _) (by simp) _) (by simp) _) _)
    · have HE := Aside0.mk (show totL (L.take k) = totL L by rw [List.take_of_length_le (by omega)])
      rw [HE.out] at H2
      clear hk
      obtain ⟨t, ht⟩ : ∃ t, totL L = t := ⟨_, rfl⟩
      rw [ht] at H2
      have HT := Aside0.mk ht
      clear ht
      have hl2 := blk_lt H2.out
      have c0 := blk_cell H2.out 0
      have c1 := blk_cell H2.out 1
      have c2 := blk_cell H2.out 2
      have d0 := blk_cell H1.out 0
      have d1 := blk_cell H1.out 1
      have d2 := blk_cell H1.out 2
      have f0 := blk_frozen H1.out 0
      have f1 := blk_frozen H1.out 1
      have f2 := blk_frozen H1.out 2
      simp only [T3.cells, List.getElem?_toArray, List.getElem?_cons_zero, List.getElem?_cons_succ] at c0 c1 c2 d0 d1 d2
      go_wp2
      have hz := blk_put (blk_put (blk_put H1.out 0 (.int .i64 t.x) rfl) 1 (.int .i64 t.y) rfl) 2 (.int .i64 t.z) rfl
      have hB := Below.setCell (Below.setCell (Below.setCell HB.out (p := ⟨w.heap.size, 0, none⟩) (Nat.le_refl _) (.int .i64 t.x)) (p := ⟨w.heap.size, 1, none⟩) (Nat.le_refl _) (.int .i64 t.y)) (p := ⟨w.heap.size, 2, none⟩) (Nat.le_refl _) (.int .i64 t.z)
      generalize World.setCell (World.setCell (World.setCell wr _ _) _ _) _ _ = w3 at hz hB ⊢
      have g0 := blk_cell hz 0
      have g1 := blk_cell hz 1
      have g2 := blk_cell hz 2
      simp at g0 g1 g2
      exact bodyPost_ret (v := .agg #[.int .i64 t.x, .int .i64 t.y, .int .i64 t.z]) (by simp [results, Try.results138, go_sem, g0, g1, g2]) rfl ⟨by rw [HT.out]; rfl, hB⟩
/-- A store of three numbers into a block of three. -/
theorem put3 {w : World} {g : Nat} {cs : Array Value} {t : TypeId} (h : w.heap[g]? = some (.cells cs t (0, 0))) (hs : cs.size = 3) (a b c : Value) :
    (((w.setCell ⟨g, 0, none⟩ a).setCell ⟨g, 1, none⟩ b).setCell ⟨g, 2, none⟩ c).heap[g]? = some (.cells #[a, b, c] t (0, 0)) := by
  obtain ⟨l⟩ := cs
  match l, hs with
  | [x, y, z], _ => exact blk_put (blk_put (blk_put h 0 a rfl) 1 b rfl) 2 c rfl
theorem below3 {B : Nat} {w0 w : World} (h : Below B w0 w) {g : Nat} (hg : B ≤ g) (a b c : Value) : Below B w0 (((w.setCell ⟨g, 0, none⟩ a).setCell ⟨g, 1, none⟩ b).setCell ⟨g, 2, none⟩ c) :=
  Below.setCell (Below.setCell (Below.setCell h (p := ⟨g, 0, none⟩) hg a) (p := ⟨g, 1, none⟩) hg b) (p := ⟨g, 2, none⟩) hg c
end Go.Proofs.Ytdippdkneeocfaa
