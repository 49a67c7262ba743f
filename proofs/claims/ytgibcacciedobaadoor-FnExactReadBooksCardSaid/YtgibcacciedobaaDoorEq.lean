/- The laws comparisons: eqByteA3, eqBook, eqBookS. -/
import Derived.Test.YtgibcacciedobaaDoorBase
import Derived.StillTailTactics
import Derived.Deep.RegionHeld3
namespace Go.Proofs.YtgibcacciedobaaDoor
open Go.RowKit Go.Proofs.YtgibcacciedobaaDoorW.PrintWords Go.Proofs.YtgibcacciedobaaDoorW.PrintMore
set_option linter.unusedVariables false
set_option linter.unusedSimpArgs false
set_option maxRecDepth 100000

set_option maxHeartbeats 2000000 in
theorem eqByteA3_c (x y z x' y' z' : Int) (w : World) : Calls Tryd.prog 55 #[.agg #[.int .u8 x, .int .u8 y, .int .u8 z], .agg #[.int .u8 x', .int .u8 y', .int .u8 z']] w (Ret w (.bool (decide (x = x' ∧ y = y' ∧ z = z')))) := by
  go_enter Tryd.func55, Tryd.ntmps55
  go_wp2
  refine wp_loop_rounds 4 ?_
  rw [rounds_succ]
  go_wp2_with fail
  go_quiet (fail)
  go_wp2
  · rename_i h1
    go_ret
    exact ⟨ret_bool (by simp at h1; simp [h1]), by repeat (first | exact Below.refl _ _ | apply balloc | apply bdrewN | apply bdrew)⟩
  · rename_i h1
    rw [rounds_succ]
    go_wp2_with fail
    go_quiet (fail)
    go_wp2
    · rename_i h2
      go_ret
      exact ⟨ret_bool (by simp at h2; simp [h2]), by repeat (first | exact Below.refl _ _ | apply balloc | apply bdrewN | apply bdrew)⟩
    · rename_i h2
      rw [rounds_succ]
      go_wp2_with fail
      go_quiet (fail)
      go_wp2
      · rename_i h3
        go_ret
        exact ⟨ret_bool (by simp at h3; simp [h3]), by repeat (first | exact Below.refl _ _ | apply balloc | apply bdrewN | apply bdrew)⟩
      · rename_i h3
        rw [rounds_succ]
        go_wp2
        go_ret
        exact ⟨ret_bool (by simp at h1 h2 h3; simp [h1, h2, h3]), by repeat (first | exact Below.refl _ _ | apply balloc | apply bdrewN | apply bdrew)⟩
set_option maxHeartbeats 2000000 in
theorem eqBook_c (a b : Bk) (w : World) : Calls Tryd.prog 21 #[a.val, b.val] w (Ret w (.bool (decide (a = b)))) := by
  simp only [Bk.val]
  go_enter Tryd.func21, Tryd.ntmps21
  go_wp2_with (go_at_call 55; refine (eqByteA3_c _ _ _ _ _ _ _).mono ?_; rintro _ w1 ⟨rfl, hb1⟩; have hz := hb1.size; simp at hz; obtain ⟨hc1, hf1⟩ := bcell hb1; have HB1 := Aside0.mk hb1; clear hb1)
  all_goals (go_ret; (try clear hc1 hf1); refine ⟨ret_bool ?_, by first | exact bstep (balloc (balloc (Below.refl _ _) _) _) HB1.out | exact balloc (balloc (Below.refl _ _) _) _⟩)
  all_goals (simp only [bne_iff_ne, bne_eq_false_iff_eq, Bool.not_eq_true', decide_eq_false_iff_not, ne_eq] at *; symm; first | (rw [decide_eq_true_iff]; cases a; cases b; simp_all; done) | (rw [decide_eq_false_iff_not]; rintro rfl; simp_all))
set_option maxHeartbeats 2000000 in
theorem eqBookS_c (A A' : Option Addr) (c c' : Nat) (L L' : List Bk) (w : World) (hL : kBk.C w A L.length L) (hL' : kBk.C w A' L'.length L') : Calls Tryd.prog 18 #[.slice A L.length c, .slice A' L'.length c'] w (Ret w (.bool (decide (L = L')))) := by
  have hm := Kd.C_max hL
  have hm' := Kd.C_max hL'
  have HL := Aside0.mk hL
  have HL' := Aside0.mk hL'
  clear hL hL'
  by_cases hll : L.length = L'.length
  · have HLL := Aside0.mk hll
    have hb0 : ((L.length : Int) != (L'.length : Int)) = false := by simp [hll]
    have hb0' : (L.length != L'.length) = false := by simp [hll]
    clear hll
    go_enter Tryd.func18, Tryd.ntmps18
    go_wp2
    go_loopg [5] L.length (fun gk v wr => ∃ k : Nat, k + gk = L.length ∧ v = .int .i64 k ∧ Aside0 (L.take k = L'.take k) ∧ Aside0 (Below w.heap.size w wr))
    case atStart => exact ⟨0, by omega, rfl, ⟨by simp⟩, ⟨Below.refl _ _⟩⟩
    case round =>
      clear hb0 hb0'
      obtain ⟨k, hk, rfl, hp, hb⟩ := hrel
      have HK := Aside0.mk hk
      by_cases hlt : k < L.length
      · have hlt' : k < L'.length := by have := HLL.out; omega
        obtain ⟨ad, b, rfl, hbk, x0, x1, x2, x3, x4, x5, x6, x7⟩ := at_bk (Kd.C_below HL.out hb.out) k (by omega)
        obtain ⟨ad', b', rfl, hbk', y0, y1, y2, y3, y4, y5, y6, y7⟩ := at_bk (Kd.C_below HL'.out hb.out) k (by omega)
        clear hk
        have i0 : (0 : Int) ≤ (k : Int) := by omega
        have i1 : (k : Int) < (L.length : Int) := by omega
        have i2 : (k : Int) < (L'.length : Int) := by omega
        have HE := Aside0.mk (eqBook_c b b')
        by_cases hbb : b = b'
        · have HD := Aside0.mk (show decide (b = b') = true by simp [hbb])
          have HN := Aside0.mk (show L.take (k + 1) = L'.take (k + 1) by rw [take_snoc hbk.out, take_snoc hbk'.out, hp.out, hbb])
          rw [HD.out] at HE
          clear hbb HD
          go_wp2_with fail
          go_still_tail 8, (by kernel_rfl)
          go_wp2_with (go_at_call 21; refine (HE.out _).mono ?_; rintro _ w1 ⟨rfl, hb1⟩)
          go_roundg (gk - 1)
          case measure => have := HK.out; omega
          case rel => exact ⟨k + 1, by have := HK.out; omega, by go_num, HN, ⟨bstep (bdrew hb.out) hb1⟩⟩
        · have HD := Aside0.mk (show decide (b = b') = false by simp [hbb])
          have HN := Aside0.mk (show L ≠ L' from fun h => hbb (by have h1 := hbk.out; rw [h, hbk'.out] at h1; injection h1 with h1; exact h1.symm))
          rw [HD.out] at HE
          clear hbb HD
          go_wp2_with fail
          go_still_tail 8, (by kernel_rfl)
          go_wp2_with (go_at_call 21; refine (HE.out _).mono ?_; rintro _ w1 ⟨rfl, hb1⟩)
          go_ret
          exact ⟨ret_bool (decide_eq_false HN.out).symm, bstep (bdrew hb.out) hb1⟩
      · have HE := Aside0.mk (show L = L' by have h1 := hp.out; have h2 := HLL.out; rwa [List.take_of_length_le (by omega), List.take_of_length_le (by omega)] at h1)
        clear hk
        go_wp2
        go_ret
        exact ⟨ret_bool (decide_eq_true HE.out).symm, hb.out⟩
  · have hb0 : ((L.length : Int) != (L'.length : Int)) = true := by simp; omega
    have hb0' : (L.length != L'.length) = true := by simpa using hll
    have HN := Aside0.mk (show L ≠ L' from fun h => hll (by rw [h]))
    clear hll
    go_enter Tryd.func18, Tryd.ntmps18
    go_wp2
    all_goals (go_ret; exact ⟨ret_bool (decide_eq_false HN.out).symm, Below.refl _ _⟩)
end Go.Proofs.YtgibcacciedobaaDoor
