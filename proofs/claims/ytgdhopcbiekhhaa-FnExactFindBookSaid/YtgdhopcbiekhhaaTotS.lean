/- The totals of a row of books: the reference's. -/
import Derived.Test.YtgdhopcbiekhhaaTot
import Derived.StillTailTactics
import Derived.Still
namespace Go.Proofs.Ytgdhopcbiekhhaa
open Go.RowKit Go.Proofs.YtgdhopcbiekhhaaW.PrintWords Go.Proofs.YtgdhopcbiekhhaaW.PrintMore
set_option linter.unusedVariables false
set_option linter.unusedSimpArgs false
set_option maxRecDepth 100000

theorem l00Max_c (x y : Int) (w : World) : Calls Try.prog 105 #[.int .i64 x, .int .i64 y] w (RetS w (.int .i64 (mx x y))) := by
  go_enter Try.func105, Try.ntmps105
  go_wp2
  all_goals (go_ret; refine ⟨ret_int ?_, rfl⟩; unfold mx; split <;> omega)
set_option maxHeartbeats 8000000 in
theorem specTotalsOf_c (A : Option Addr) (c : Nat) (L : List Bk) (hok : OkL L) (w : World) (hL : kBk.C w A L.length L) : Calls Try.prog 46 #[.slice A L.length c] w (Ret w (.tuple #[.agg (totV L).cells, .int .i64 (eV L)])) := by
  have hm := Kd.C_max hL
  have H1 := Aside0.mk (blk_alloc (blk_new w (.cells #[.int .i64 0, .int .i64 0, .int .i64 0] 51)) (.cells #[.int .i64 0, .int .i64 0, .int .i64 0] 51))
  have hb2 := blk_new (w.alloc (.cells #[.int .i64 0, .int .i64 0, .int .i64 0] 51)) (.cells #[.int .i64 0, .int .i64 0, .int .i64 0] 51)
  rw [World.size_alloc] at hb2
  have H2 := Aside0.mk hb2
  have HB := Aside0.mk (balloc (balloc (Below.refl w.heap.size w) (.cells #[.int .i64 0, .int .i64 0, .int .i64 0] 51)) (.cells #[.int .i64 0, .int .i64 0, .int .i64 0] 51))
  have hL0 := Kd.C_below hL HB.out
  have HL := Aside0.mk hL
  have HV := Aside0.mk (l01Ok_c A c L hok _ hL0)
  have HO := Aside0.mk hok
  clear hL hL0 hok hb2
  cases h : vBooks L
  · rw [h] at HV
    have HE := Aside0.mk (show totV L = ⟨0, 0, 0⟩ ∧ eV L = 1 from ⟨totV_f h, eV_f h⟩)
    clear h
    go_enter Try.func46, Try.ntmps46
    go_wp2_with fail
    generalize World.alloc (World.alloc w _) _ = w1 at H1 H2 HB HV ⊢
    refine HV.out.mono ?_; rintro _ w2 ⟨rfl, hb1⟩
    have hz := blk_below H1.out hb1
    have hy := blk_below H2.out hb1
    have hB := bstep HB.out hb1
    have f0 := blk_frozen hz 0
    have f1 := blk_frozen hz 1
    have f2 := blk_frozen hz 2
    have c0 := blk_cell hz 0
    have c1 := blk_cell hz 1
    have c2 := blk_cell hz 2
    have d0 := blk_cell hy 0
    have d1 := blk_cell hy 1
    have d2 := blk_cell hy 2
    simp at c0 c1 c2 d0 d1 d2
    have HZ := Aside0.mk (put3 hz rfl (.int .i64 0) (.int .i64 0) (.int .i64 0))
    have HB2 := Aside0.mk (below3 hB (Nat.le_refl _) (.int .i64 0) (.int .i64 0) (.int .i64 0))
    clear hb1 hz hy hB
    go_wp2
    have hz := HZ.out
    have hB := HB2.out
    clear HZ HB2
    generalize World.setCell (World.setCell (World.setCell _ _ _) _ _) _ _ = wz at hz hB ⊢
    have g0 := blk_cell hz 0
    have g1 := blk_cell hz 1
    have g2 := blk_cell hz 2
    simp at g0 g1 g2
    exact bodyPost_ret (v := .tuple #[.agg #[.int .i64 0, .int .i64 0, .int .i64 0], .int .i64 1]) (by simp [results, Try.results46, go_sem, g0, g1, g2]) rfl ⟨by rw [HE.out.1, HE.out.2]; rfl, hB⟩
  · rw [h] at HV
    have HE := Aside0.mk (show totV L = totL L ∧ eV L = 0 from ⟨totV_t h, eV_t h⟩)
    clear h
    go_enter Try.func46, Try.ntmps46
    go_wp2_with fail
    generalize World.alloc (World.alloc w _) _ = w1 at H1 H2 HB HV ⊢
    refine HV.out.mono ?_; rintro _ w2 ⟨rfl, hb1⟩
    have G1 := Aside0.mk (blk_below H1.out hb1)
    have G2 := Aside0.mk (blk_below H2.out hb1)
    have GB := Aside0.mk (bstep HB.out hb1)
    clear H1 H2 HB HV hb1
    go_wp2_with fail
    go_loopg [5] L.length (fun gk v wr => ∃ k : Nat, k + gk = L.length ∧ v = .int .i64 k ∧ Aside0 (wr.heap[w.heap.size]? = some (.cells #[.int .i64 0, .int .i64 0, .int .i64 0] 51 (0, 0))) ∧ Aside0 (wr.heap[w.heap.size + 1]? = some (.cells (totL (L.take k)).cells 51 (0, 0))) ∧ Aside0 (Below w.heap.size w wr))
    case atStart => exact ⟨0, by omega, rfl, G1, ⟨G2.out⟩, GB⟩
    case round =>
      clear G1 G2 GB
      obtain ⟨k, hk, rfl, H1, H2, HB⟩ := hrel
      have HK := Aside0.mk hk
      by_cases hlt : k < L.length
      · obtain ⟨ad, b, rfl, hbk, hx⟩ := at_bk' (Kd.C_below HL.out HB.out) k hlt
        have HN := Aside0.mk (totL_next hbk.out)
        obtain ⟨⟨i0, i0'⟩, ⟨i1, i1'⟩, ⟨i2, i2'⟩, ⟨i3, i3'⟩, ⟨i4, i4'⟩, ⟨i5, i5'⟩, ⟨i6, i6'⟩, i7, i7'⟩ := HO.out b (mem_of hbk.out)
        have j1 : (k : Int) < (L.length : Int) := by omega
        clear hk hx
        obtain ⟨t, ht⟩ : ∃ t, totL (L.take k) = t := ⟨_, rfl⟩
        rw [ht] at H2 HN
        clear ht
        simp only [T3.cells] at H2
        obtain ⟨adP, bP, eP, hbkP, hxP⟩ := at_bk' (Kd.C_below HL.out HB.out) k hlt
        injection eP with eP
        subst eP
        have hbbP := hbkP.out
        rw [hbk.out] at hbbP
        injection hbbP with hbbP
        subst hbbP
        clear hbkP
        obtain ⟨x0, x1, x2, x3, x4, x5, x6, x7⟩ := hxP
        have c0 := blk_cell H2.out 0
        have c1 := blk_cell H2.out 1
        have c2 := blk_cell H2.out 2
        have f0 := blk_frozen H2.out 0
        have f1 := blk_frozen H2.out 1
        have f2 := blk_frozen H2.out 2
        simp at c0 c1 c2
        go_wp2_with fail
        go_still_tail 10, (by kernel_rfl)
        go_wp2_with fail
        have P1 := Aside0.mk (blk_drew (blk_far H1.out (p := ⟨w.heap.size + 1, 0, none⟩) (by simp) (.int .i64 (wrap64 (t.x + b.wd)))))
        have P2 := Aside0.mk (blk_drew (blk_put H2.out 0 (.int .i64 (wrap64 (t.x + b.wd))) (cs' := #[.int .i64 (wrap64 (t.x + b.wd)), .int .i64 t.y, .int .i64 t.z]) rfl))
        have PB := Aside0.mk (bdrew (Below.setCell HB.out (p := ⟨w.heap.size + 1, 0, none⟩) (by simp) (.int .i64 (wrap64 (t.x + b.wd)))))
        clear H1 H2 HB x0 x1 x2 x3 x4 x5 x6 x7 c0 c1 c2 f0 f1 f2
        generalize World.drew (World.setCell wr _ _) = wP at P1 P2 PB ⊢
        obtain ⟨adQ, bQ, eQ, hbkQ, hxQ⟩ := at_bk' (Kd.C_below HL.out PB.out) k hlt
        injection eQ with eQ
        subst eQ
        have hbbQ := hbkQ.out
        rw [hbk.out] at hbbQ
        injection hbbQ with hbbQ
        subst hbbQ
        clear hbkQ
        obtain ⟨x0, x1, x2, x3, x4, x5, x6, x7⟩ := hxQ
        have c0 := blk_cell P2.out 0
        have c1 := blk_cell P2.out 1
        have c2 := blk_cell P2.out 2
        have f0 := blk_frozen P2.out 0
        have f1 := blk_frozen P2.out 1
        have f2 := blk_frozen P2.out 2
        simp at c0 c1 c2
        go_wp2_with fail
        refine wp_region_still_tail 10 (by kernel_rfl) (by kernel_rfl) ?_
        simp only [List.take_succ_cons, List.take_zero, List.drop_succ_cons, List.drop_zero]
        repeat still_step
        still_call ((l00Max_c _ _ _).mono (fun _ _ h => ⟨h.1, h.2.symm⟩))
        repeat still_step
        refine wpStill_nil ?_
        go_wp2_with fail
        have Q1 := Aside0.mk (blk_drew (blk_far P1.out (p := ⟨w.heap.size + 1, 1, none⟩) (by simp) (.int .i64 (mx t.y b.h))))
        have Q2 := Aside0.mk (blk_drew (blk_put P2.out 1 (.int .i64 (mx t.y b.h)) (cs' := #[.int .i64 (wrap64 (t.x + b.wd)), .int .i64 (mx t.y b.h), .int .i64 t.z]) rfl))
        have QB := Aside0.mk (bdrew (Below.setCell PB.out (p := ⟨w.heap.size + 1, 1, none⟩) (by simp) (.int .i64 (mx t.y b.h))))
        clear P1 P2 PB x0 x1 x2 x3 x4 x5 x6 x7 c0 c1 c2 f0 f1 f2
        generalize World.drew (World.setCell wP _ _) = wQ at Q1 Q2 QB ⊢
        obtain ⟨adR, bR, eR, hbkR, hxR⟩ := at_bk' (Kd.C_below HL.out QB.out) k hlt
        injection eR with eR
        subst eR
        have hbbR := hbkR.out
        rw [hbk.out] at hbbR
        injection hbbR with hbbR
        subst hbbR
        clear hbkR
        obtain ⟨x0, x1, x2, x3, x4, x5, x6, x7⟩ := hxR
        have c0 := blk_cell Q2.out 0
        have c1 := blk_cell Q2.out 1
        have c2 := blk_cell Q2.out 2
        have f0 := blk_frozen Q2.out 0
        have f1 := blk_frozen Q2.out 1
        have f2 := blk_frozen Q2.out 2
        simp at c0 c1 c2
        go_wp2_with fail
        go_still_tail 10, (by kernel_rfl)
        go_wp2_with fail
        have R1 := Aside0.mk (blk_drew (blk_far Q1.out (p := ⟨w.heap.size + 1, 2, none⟩) (by simp) (.int .i64 (wrap64 (t.z + b.wt)))))
        have R2 := Aside0.mk (blk_drew (blk_put Q2.out 2 (.int .i64 (wrap64 (t.z + b.wt))) (cs' := #[.int .i64 (wrap64 (t.x + b.wd)), .int .i64 (mx t.y b.h), .int .i64 (wrap64 (t.z + b.wt))]) rfl))
        have RB := Aside0.mk (bdrew (Below.setCell QB.out (p := ⟨w.heap.size + 1, 2, none⟩) (by simp) (.int .i64 (wrap64 (t.z + b.wt)))))
        clear Q1 Q2 QB x0 x1 x2 x3 x4 x5 x6 x7 c0 c1 c2 f0 f1 f2
        generalize World.drew (World.setCell wQ _ _) = wR at R1 R2 RB ⊢
        go_wp2_with fail
        go_roundg (gk - 1)
        case measure => have := HK.out; omega
        case rel => exact ⟨k + 1, by have := HK.out; omega, by go_num, R1, ⟨by rw [HN.out]; exact R2.out⟩, RB⟩
      · have HT := Aside0.mk (show totL (L.take k) = totL L by rw [List.take_of_length_le (by omega)])
        rw [HT.out] at H2
        clear hk
        obtain ⟨t, ht⟩ : ∃ t, totL L = t := ⟨_, rfl⟩
        rw [ht] at H2 HE
        clear ht HT
        have c0 := blk_cell H2.out 0
        have c1 := blk_cell H2.out 1
        have c2 := blk_cell H2.out 2
        have d0 := blk_cell H1.out 0
        have d1 := blk_cell H1.out 1
        have d2 := blk_cell H1.out 2
        have f0 := blk_frozen H1.out 0
        have f1 := blk_frozen H1.out 1
        have f2 := blk_frozen H1.out 2
        simp [T3.cells] at c0 c1 c2 d0 d1 d2
        have HZ := Aside0.mk (put3 H1.out rfl (.int .i64 t.x) (.int .i64 t.y) (.int .i64 t.z))
        have HB2 := Aside0.mk (below3 HB.out (Nat.le_refl _) (.int .i64 t.x) (.int .i64 t.y) (.int .i64 t.z))
        go_wp2
        have hz := HZ.out
        have hB := HB2.out
        clear HZ HB2
        generalize World.setCell (World.setCell (World.setCell _ _ _) _ _) _ _ = wz at hz hB ⊢
        have g0 := blk_cell hz 0
        have g1 := blk_cell hz 1
        have g2 := blk_cell hz 2
        simp at g0 g1 g2
        exact bodyPost_ret (v := .tuple #[.agg #[.int .i64 t.x, .int .i64 t.y, .int .i64 t.z], .int .i64 0]) (by simp [results, Try.results46, go_sem, g0, g1, g2]) rfl ⟨by rw [HE.out.1, HE.out.2]; rfl, hB⟩
end Go.Proofs.Ytgdhopcbiekhhaa
