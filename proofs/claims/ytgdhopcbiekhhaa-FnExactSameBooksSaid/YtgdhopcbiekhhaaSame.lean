/- Two lists of books are equal: slices.Equal, SameBooks, the reference's. -/
import Derived.Test.YtgdhopcbiekhhaaBase
import Derived.StillTailTactics
import Derived.ChangeKeysEq
namespace Go.Proofs.Ytgdhopcbiekhhaa
open Go.RowKit Go.Proofs.YtgdhopcbiekhhaaW.PrintWords Go.Proofs.YtgdhopcbiekhhaaW.PrintMore
set_option linter.unusedVariables false
set_option linter.unusedSimpArgs false
set_option maxRecDepth 100000

theorem info_u8 : ∃ i, Try.prog.info? 5 = some i ∧ i.size = 1 := by
  have h : (Try.prog.info? 5).map (fun i => i.size) = some 1 := by kernel_rfl
  obtain ⟨i, h1, h2⟩ := Option.map_eq_some_iff.1 h
  exact ⟨i, h1, h2⟩
theorem agg_u8 (w : World) : (isAgg 5).run Try.prog w = .ok false w := by kernel_rfl
/-- Three bytes against three bytes. -/
theorem arr3_eq (x y z x' y' z' : Int) (w : World) : (Op.equalIn 9999 30 (.agg #[.int .u8 x, .int .u8 y, .int .u8 z]) (.agg #[.int .u8 x', .int .u8 y', .int .u8 z'])).run Try.prog w = .ok (decide (x = x' ∧ y = y' ∧ z = z')) w := by
  obtain ⟨i, hi, hs⟩ := info_u8
  rw [run_equalIn_array w 9998 _ _ Try.underlying30 hi]
  have hc : Try.prog.cellsOf 5 = 1 := by kernel_rfl
  rw [hc, show List.range 3 = [0, 1, 2] from rfl]
  have e1 : ∀ (a b : Int) (w : World), (Op.equalIn 9998 5 (.int .u8 a) (.int .u8 b)).run Try.prog w = .ok (a == b) w := fun a b w => run_equalIn_int w 9997 5 .u8 .u8 a b Try.underlying5
  simp only [Op.eqItems, Sem.run_bind, part, agg_u8, Result.andThen_ok, Bool.false_eq_true, if_false]
  by_cases h0 : x = x' <;> by_cases h1 : y = y' <;> by_cases h2 : z = z' <;> simp [part, agg_u8, e1, h0, h1, h2]
theorem bk_same {b b' : Bk} (h0 : b.c = b'.c) (h1 : ¬(b.m0 = b'.m0 → b.m1 = b'.m1 → ¬b.m2 = b'.m2)) (h2 : b.v = b'.v) (h3 : b.wd = b'.wd) (h4 : b.h = b'.h) (h5 : b.wt = b'.wt) : b = b' := by
  cases b; cases b'
  simp only [Bk.mk.injEq] at *
  simp_all
set_option maxHeartbeats 2000000 in
theorem l01Same_c (A A' : Option Addr) (c c' : Nat) (L L' : List Bk) (w : World) (hL : kBk.C w A L.length L) (hL' : kBk.C w A' L'.length L') : Calls Try.prog 98 #[.slice A L.length c, .slice A' L'.length c'] w (Ret w (.bool (decide (L = L')))) := by
  have hm := Kd.C_max hL
  have hm' := Kd.C_max hL'
  have HL := Aside0.mk hL
  have HL' := Aside0.mk hL'
  clear hL hL'
  by_cases hll : L.length = L'.length
  · have HLL := Aside0.mk hll
    have hb0 : ((L.length : Int) != (L'.length : Int)) = false := by simp [hll]
    have hb0' : (L.length != L'.length) = false := by simp [hll]
    clear hll
    go_enter Try.func98, Try.ntmps98
    go_wp2
    go_loopg [5] L.length (fun gk v wr => ∃ k : Nat, k + gk = L.length ∧ v = .int .i64 k ∧ Aside0 (L.take k = L'.take k) ∧ Aside0 (Below w.heap.size w wr))
    case atStart => exact ⟨0, by omega, rfl, ⟨by simp⟩, ⟨Below.refl _ _⟩⟩
    case round =>
      clear hb0 hb0'
      obtain ⟨k, hk, rfl, hp, hb⟩ := hrel
      have HK := Aside0.mk hk
      by_cases hlt : k < L.length
      · have hlt' : k < L'.length := by have := HLL.out; omega
        obtain ⟨ad, b, rfl, hbk, x0, x1, x2, x3, x4, x5, x6, x7⟩ := at_bk (Kd.C_below HL.out hb.out) k (by omega)
        obtain ⟨ad', b', rfl, hbk', y0, y1, y2, y3, y4, y5, y6, y7⟩ := at_bk (Kd.C_below HL'.out hb.out) k (by omega)
        clear hk
        have i0 : (0 : Int) ≤ (k : Int) := by omega
        have i1 : (k : Int) < (L.length : Int) := by omega
        have i2 : (k : Int) < (L'.length : Int) := by omega
        have hqn := arr3_eq b.m0 b.m1 b.m2 b'.m0 b'.m1 b'.m2
        by_cases hbb : b = b'
        · have HD := Aside0.mk (show decide (b = b') = true by simp [hbb])
          have HN := Aside0.mk (show L.take (k + 1) = L'.take (k + 1) by rw [take_snoc hbk.out, take_snoc hbk'.out, hp.out, hbb])
          clear HD
          subst hbb
          simp only [and_self, decide_true] at hqn
          go_wp2_with fail
          go_still_tail 8, (by kernel_rfl)
          go_wp2
          go_roundg (gk - 1)
          case measure => have := HK.out; omega
          case rel => exact ⟨k + 1, by have := HK.out; omega, by go_num, HN, ⟨bdrewN hb.out _⟩⟩
        · have HD := Aside0.mk (show decide (b = b') = false by simp [hbb])
          have HN := Aside0.mk (show L ≠ L' from fun h => hbb (by have h1 := hbk.out; rw [h, hbk'.out] at h1; injection h1 with h1; exact h1.symm))
          have HBB := Aside0.mk hbb
          clear hbb HD
          go_wp2_with fail
          go_still_tail 8, (by kernel_rfl)
          go_wp2
          all_goals first
            | exact absurd (bk_same ‹b.c = b'.c› ‹¬(b.m0 = b'.m0 → b.m1 = b'.m1 → ¬b.m2 = b'.m2)› ‹b.v = b'.v› ‹b.wd = b'.wd› ‹b.h = b'.h› ‹b.wt = b'.wt›) HBB.out
            | (go_ret; exact ⟨ret_bool (decide_eq_false HN.out).symm, bdrewN hb.out _⟩)
      · have HE := Aside0.mk (show L = L' by have h1 := hp.out; have h2 := HLL.out; rwa [List.take_of_length_le (by omega), List.take_of_length_le (by omega)] at h1)
        clear hk
        go_wp2
        go_ret
        exact ⟨ret_bool (decide_eq_true HE.out).symm, hb.out⟩
  · have hb0 : ((L.length : Int) != (L'.length : Int)) = true := by simp; omega
    have hb0' : (L.length != L'.length) = true := by simpa using hll
    have HN := Aside0.mk (show L ≠ L' from fun h => hll (by rw [h]))
    clear hll
    go_enter Try.func98, Try.ntmps98
    go_wp2
    all_goals (go_ret; exact ⟨ret_bool (decide_eq_false HN.out).symm, Below.refl _ _⟩)
set_option maxHeartbeats 2000000 in
theorem slicesEqual_c (A A' : Option Addr) (c c' : Nat) (L L' : List Bk) (w : World) (hL : kBk.C w A L.length L) (hL' : kBk.C w A' L'.length L') : Calls Try.prog 99 #[.slice A L.length c, .slice A' L'.length c'] w (Ret w (.bool (decide (L = L')))) := by
  have hm := Kd.C_max hL
  have hm' := Kd.C_max hL'
  have HL := Aside0.mk hL
  have HL' := Aside0.mk hL'
  clear hL hL'
  by_cases hll : L.length = L'.length
  · have HLL := Aside0.mk hll
    have hb0 : ((L.length : Int) != (L'.length : Int)) = false := by simp [hll]
    have hb0' : (L.length != L'.length) = false := by simp [hll]
    clear hll
    go_enter Try.func99, Try.ntmps99
    go_wp2
    go_loopg [13] L.length (fun gk v wr => ∃ k : Nat, k + gk = L.length ∧ v = .int .i64 k ∧ Aside0 (L.take k = L'.take k) ∧ Aside0 (Below w.heap.size w wr))
    case atStart => exact ⟨0, by omega, rfl, ⟨by simp⟩, ⟨Below.refl _ _⟩⟩
    case round =>
      clear hb0 hb0'
      obtain ⟨k, hk, rfl, hp, hb⟩ := hrel
      have HK := Aside0.mk hk
      by_cases hlt : k < L.length
      · have hlt' : k < L'.length := by have := HLL.out; omega
        obtain ⟨ad, b, rfl, hbk, x0, x1, x2, x3, x4, x5, x6, x7⟩ := at_bk (Kd.C_below HL.out hb.out) k (by omega)
        obtain ⟨ad', b', rfl, hbk', y0, y1, y2, y3, y4, y5, y6, y7⟩ := at_bk (Kd.C_below HL'.out hb.out) k (by omega)
        clear hk
        have i0 : (0 : Int) ≤ (k : Int) := by omega
        have i1 : (k : Int) < (L.length : Int) := by omega
        have i2 : (k : Int) < (L'.length : Int) := by omega
        have hqn := arr3_eq b.m0 b.m1 b.m2 b'.m0 b'.m1 b'.m2
        by_cases hbb : b = b'
        · have HD := Aside0.mk (show decide (b = b') = true by simp [hbb])
          have HN := Aside0.mk (show L.take (k + 1) = L'.take (k + 1) by rw [take_snoc hbk.out, take_snoc hbk'.out, hp.out, hbb])
          clear HD
          subst hbb
          simp only [and_self, decide_true] at hqn
          go_wp2_with fail
          go_still_tail 8, (by kernel_rfl)
          go_wp2
          go_roundg (gk - 1)
          case measure => have := HK.out; omega
          case rel => exact ⟨k + 1, by have := HK.out; omega, by go_num, HN, ⟨bdrewN hb.out _⟩⟩
        · have HD := Aside0.mk (show decide (b = b') = false by simp [hbb])
          have HN := Aside0.mk (show L ≠ L' from fun h => hbb (by have h1 := hbk.out; rw [h, hbk'.out] at h1; injection h1 with h1; exact h1.symm))
          have HBB := Aside0.mk hbb
          clear hbb HD
          go_wp2_with fail
          go_still_tail 8, (by kernel_rfl)
          go_wp2
          all_goals first
            | exact absurd (bk_same ‹b.c = b'.c› ‹¬(b.m0 = b'.m0 → b.m1 = b'.m1 → ¬b.m2 = b'.m2)› ‹b.v = b'.v› ‹b.wd = b'.wd› ‹b.h = b'.h› ‹b.wt = b'.wt›) HBB.out
            | (go_ret; exact ⟨ret_bool (decide_eq_false HN.out).symm, bdrewN hb.out _⟩)
      · have HE := Aside0.mk (show L = L' by have h1 := hp.out; have h2 := HLL.out; rwa [List.take_of_length_le (by omega), List.take_of_length_le (by omega)] at h1)
        clear hk
        go_wp2
        go_ret
        exact ⟨ret_bool (decide_eq_true HE.out).symm, hb.out⟩
  · have hb0 : ((L.length : Int) != (L'.length : Int)) = true := by simp; omega
    have hb0' : (L.length != L'.length) = true := by simpa using hll
    have HN := Aside0.mk (show L ≠ L' from fun h => hll (by rw [h]))
    clear hll
    go_enter Try.func99, Try.ntmps99
    go_wp2
    all_goals (go_ret; exact ⟨ret_bool (decide_eq_false HN.out).symm, Below.refl _ _⟩)
theorem SameBooks_c (A A' : Option Addr) (c c' : Nat) (L L' : List Bk) (w : World) (hL : kBk.C w A L.length L) (hL' : kBk.C w A' L'.length L') : Calls Try.prog 37 #[.slice A L.length c, .slice A' L'.length c'] w (Ret w (.bool (decide (L = L')))) := by
  have HC := Aside0.mk (slicesEqual_c A A' c c' L L' w hL hL')
  clear hL hL'
  go_enter Try.func37, Try.ntmps37
  go_wp2_with fail
  refine HC.out.mono ?_; rintro _ w1 ⟨rfl, hb1⟩
  go_wp2_with fail
  go_ret
  exact ⟨rfl, hb1⟩
theorem specSameBooks_c (A A' : Option Addr) (c c' : Nat) (L L' : List Bk) (w : World) (hL : kBk.C w A L.length L) (hL' : kBk.C w A' L'.length L') : Calls Try.prog 35 #[.slice A L.length c, .slice A' L'.length c'] w (Ret w (.bool (decide (L = L')))) := by
  have HC := Aside0.mk (l01Same_c A A' c c' L L' w hL hL')
  clear hL hL'
  go_enter Try.func35, Try.ntmps35
  go_wp2_with fail
  refine HC.out.mono ?_; rintro _ w1 ⟨rfl, hb1⟩
  go_wp2_with fail
  go_ret
  exact ⟨rfl, hb1⟩
end Go.Proofs.Ytgdhopcbiekhhaa
