/- Two cases are deeply equal: the program's and the reference's. -/
import Derived.Test.YtdippdkneeocfaaCase
import Derived.StillTailTactics
import Derived.Still
import Derived.Deep.QuietTactic
import Derived.BigQuiet
namespace Go.Proofs.Ytdippdkneeocfaa
open Go.RowKit Go.Proofs.YtdippdkneeocfaaW.PrintWords Go.Proofs.YtdippdkneeocfaaW.PrintMore
set_option linter.unusedVariables false
set_option linter.unusedSimpArgs false
set_option maxRecDepth 100000

set_option maxHeartbeats 2000000 in
theorem slEqI16_c (A A' : Option Addr) (c c' : Nat) (L L' : List Int) (w : World) (hL : (Kd.int .i16).C w A L.length L) (hL' : (Kd.int .i16).C w A' L'.length L') : Calls Try.prog 115 #[.slice A L.length c, .slice A' L'.length c'] w (Ret w (.bool (decide (L = L')))) := by
  have hm := Kd.C_max hL
  have hm' := Kd.C_max hL'
  have HL := Aside0.mk hL
  have HL' := Aside0.mk hL'
  clear hL hL'
  by_cases hll : L.length = L'.length
  · have HLL := Aside0.mk hll
    have hb0 : ((L.length : Int) != (L'.length : Int)) = false := by simp [hll]
    have hb0' : (L.length != L'.length) = false := by simp [hll]
    clear hll
    go_enter Try.func115, Try.ntmps115
    go_wp2
    go_loopg [13] L.length (fun gk v wr => ∃ k : Nat, k + gk = L.length ∧ v = .int .i64 k ∧ Aside0 (L.take k = L'.take k) ∧ Aside0 (Below w.heap.size w wr))
    case atStart => exact ⟨0, by omega, rfl, ⟨by simp⟩, ⟨Below.refl _ _⟩⟩
    case round =>
      clear hb0 hb0'
      obtain ⟨k, hk, rfl, hp, hb⟩ := hrel
      have HK := Aside0.mk hk
      by_cases hlt : k < L.length
      · have hlt' : k < L'.length := by have := HLL.out; omega
        obtain ⟨ad, x, rfl, hbk, x0⟩ := at_int' (Kd.C_below HL.out hb.out) k (by omega)
        obtain ⟨ad', y, rfl, hbk', y0⟩ := at_int' (Kd.C_below HL'.out hb.out) k (by omega)
        clear hk
        have i0 : (0 : Int) ≤ (k : Int) := by omega
        have i1 : (k : Int) < (L.length : Int) := by omega
        have i2 : (k : Int) < (L'.length : Int) := by omega
        by_cases hxy : x = y
        · have HN := Aside0.mk (show L.take (k + 1) = L'.take (k + 1) by rw [take_snoc hbk.out, take_snoc hbk'.out, hp.out, hxy])
          have hd : (x != y) = false := by simp [hxy]
          clear hxy
          go_wp2_with fail
          go_quiet (fail)
          go_wp2
          go_roundg (gk - 1)
          case measure => have := HK.out; omega
          case rel => exact ⟨k + 1, by have := HK.out; omega, by go_num, HN, ⟨bdrewN hb.out _⟩⟩
        · have HN := Aside0.mk (show L ≠ L' from fun h => hxy (by have h1 := hbk.out; rw [h, hbk'.out] at h1; injection h1 with h1; exact h1.symm))
          have hd : (x != y) = true := by simpa using hxy
          clear hxy
          go_wp2_with fail
          go_quiet (fail)
          go_wp2
          go_ret
          exact ⟨ret_bool (decide_eq_false HN.out).symm, bdrewN hb.out _⟩
      · have HE := Aside0.mk (show L = L' by have h1 := hp.out; have h2 := HLL.out; rwa [List.take_of_length_le (by omega), List.take_of_length_le (by omega)] at h1)
        clear hk
        go_wp2
        go_ret
        exact ⟨ret_bool (decide_eq_true HE.out).symm, hb.out⟩
  · have hb0 : ((L.length : Int) != (L'.length : Int)) = true := by simp; omega
    have hb0' : (L.length != L'.length) = true := by simpa using hll
    have HN := Aside0.mk (show L ≠ L' from fun h => hll (by rw [h]))
    clear hll
    go_enter Try.func115, Try.ntmps115
    go_wp2
    all_goals (go_ret; exact ⟨ret_bool (decide_eq_false HN.out).symm, Below.refl _ _⟩)
theorem cs_eq (k k' : Cs) : decide (k = k') = (decide (k.wd = k'.wd) && (decide (k.ld = k'.ld) && decide (k.hs = k'.hs))) := by
  obtain ⟨a, b, l⟩ := k
  obtain ⟨a', b', l'⟩ := k'
  rw [Bool.eq_iff_iff]; simp
set_option maxHeartbeats 1000000 in
theorem SameCase_c (k k' : Cs) (A A' : Option Addr) (c c' : Nat) (w : World) (hC : (Kd.int .i16).C w A k.hs.length k.hs) (hC' : (Kd.int .i16).C w A' k'.hs.length k'.hs) :
    Calls Try.prog 45 #[k.val A c, k'.val A' c'] w (Ret w (.bool (decide (k = k')))) := by
  have HC := Aside0.mk (slEqI16_c A A' c c' k.hs k'.hs _ (Kd.C_alloc (Kd.C_alloc hC (.cells #[.int .i16 k.wd, .int .i32 k.ld, .slice A k.hs.length c] 51)) (.cells #[.int .i16 k'.wd, .int .i32 k'.ld, .slice A' k'.hs.length c'] 51)) (Kd.C_alloc (Kd.C_alloc hC' (.cells #[.int .i16 k.wd, .int .i32 k.ld, .slice A k.hs.length c] 51)) (.cells #[.int .i16 k'.wd, .int .i32 k'.ld, .slice A' k'.hs.length c'] 51)))
  have HE := Aside0.mk (cs_eq k k')
  have HB := Aside0.mk (balloc (balloc (Below.refl w.heap.size w) (.cells #[.int .i16 k.wd, .int .i32 k.ld, .slice A k.hs.length c] 51)) (.cells #[.int .i16 k'.wd, .int .i32 k'.ld, .slice A' k'.hs.length c'] 51))
  clear hC hC'
  simp only [Cs.val]
  by_cases h0 : k.wd = k'.wd
  · have b0 : (k.wd == k'.wd) = true := by simp [h0]
    by_cases h1 : k.ld = k'.ld
    · have b1 : (k.ld == k'.ld) = true := by simp [h1]
      rw [decide_eq_true h0, decide_eq_true h1, Bool.true_and, Bool.true_and] at HE
      clear h0 h1
      go_enter Try.func45, Try.ntmps45
      go_wp2_with fail
      refine HC.out.mono ?_; rintro _ w1 ⟨rfl, hb1⟩
      have HB1 := Aside0.mk (bstep HB.out hb1)
      clear hb1
      go_wp2_with fail
      go_ret
      exact ⟨ret_bool HE.out.symm, HB1.out⟩
    · have b1 : (k.ld == k'.ld) = false := by simp [h1]
      rw [decide_eq_false h1, Bool.false_and, Bool.and_false] at HE
      clear h0 h1
      go_enter Try.func45, Try.ntmps45
      go_wp2_with fail
      go_ret
      exact ⟨ret_bool HE.out.symm, HB.out⟩
  · have b0 : (k.wd == k'.wd) = false := by simp [h0]
    rw [decide_eq_false h0, Bool.false_and] at HE
    clear h0
    go_enter Try.func45, Try.ntmps45
    go_wp2_with fail
    go_ret
    exact ⟨ret_bool HE.out.symm, HB.out⟩
set_option maxHeartbeats 4000000 in
theorem l02Same_c (k k' : Cs) (A A' : Option Addr) (c c' : Nat) (p p' : Addr) (w : World) (hp : CsAt w p k A c) (hp' : CsAt w p' k' A' c') (hC : (Kd.int .i16).C w A k.hs.length k.hs) (hC' : (Kd.int .i16).C w A' k'.hs.length k'.hs) :
    Calls Try.prog 113 #[.pointer (some p), .pointer (some p')] w (Ret w (.bool (decide (k = k')))) := by
  have hm := Kd.C_max hC
  have hm' := Kd.C_max hC'
  have HP := Aside0.mk hp
  have HP' := Aside0.mk hp'
  have HL := Aside0.mk hC
  have HL' := Aside0.mk hC'
  have HE := Aside0.mk (cs_eq k k')
  obtain ⟨y0, y1, y2⟩ := hp
  obtain ⟨z0, z1, z2⟩ := hp'
  clear hC hC'
  by_cases h0 : k.wd = k'.wd
  · have b0 : (k.wd != k'.wd) = false := by simp [h0]
    by_cases h1 : k.ld = k'.ld
    · have b1 : (k.ld != k'.ld) = false := by simp [h1]
      rw [decide_eq_true h0, decide_eq_true h1, Bool.true_and, Bool.true_and] at HE
      clear h0 h1
      by_cases hll : k.hs.length = k'.hs.length
      · have HLL := Aside0.mk hll
        have b2 : ((k.hs.length : Int) != (k'.hs.length : Int)) = false := by simp [hll]
        have b2' : (k.hs.length != k'.hs.length) = false := by simp [hll]
        clear hll
        go_enter Try.func113, Try.ntmps113
        go_wp2_with fail
        go_quiet (fail)
        go_wp2
        clear y0 y1 y2 z0 z1 z2
        go_loopg [5] k.hs.length (fun gk v wr => ∃ i : Nat, i + gk = k.hs.length ∧ v = .int .i64 i ∧ Aside0 (k.hs.take i = k'.hs.take i) ∧ Aside0 (Below w.heap.size w wr))
        case atStart => exact ⟨0, by omega, rfl, ⟨by simp⟩, ⟨bdrewN (Below.refl _ _) _⟩⟩
        case round =>
          clear b0 b1 b2 b2'
          obtain ⟨i, hk, rfl, hp, hb⟩ := hrel
          obtain ⟨y0, y1, y2⟩ := HP.out.below hb.out
          obtain ⟨z0, z1, z2⟩ := HP'.out.below hb.out
          have HK := Aside0.mk hk
          by_cases hlt : i < k.hs.length
          · have hlt' : i < k'.hs.length := by have := HLL.out; omega
            obtain ⟨ad, x, e1, hbk, x0⟩ := at_int' (Kd.C_below HL.out hb.out) i (by omega)
            obtain ⟨ad', y, e2, hbk', x0'⟩ := at_int' (Kd.C_below HL'.out hb.out) i (by omega)
            rw [e1] at y2
            rw [e2] at z2
            clear hk e1 e2
            have i0 : (0 : Int) ≤ (i : Int) := by omega
            have i1 : (i : Int) < (k.hs.length : Int) := by omega
            have i2 : (i : Int) < (k'.hs.length : Int) := by omega
            by_cases hxy : x = y
            · have HN := Aside0.mk (show k.hs.take (i + 1) = k'.hs.take (i + 1) by rw [take_snoc hbk.out, take_snoc hbk'.out, hp.out, hxy])
              have hd : (x != y) = false := by simp [hxy]
              clear hxy
              go_wp2_with fail
              go_quiet (fail)
              go_wp2
              go_roundg (gk - 1)
              case measure => have := HK.out; omega
              case rel => exact ⟨i + 1, by have := HK.out; omega, by go_num, HN, ⟨bdrewN hb.out _⟩⟩
            · have HN := Aside0.mk (show k.hs ≠ k'.hs from fun h => hxy (by have h1 := hbk.out; rw [h, hbk'.out] at h1; injection h1 with h1; exact h1.symm))
              have hd : (x != y) = true := by simpa using hxy
              clear hxy
              go_wp2_with fail
              go_quiet (fail)
              go_wp2
              go_ret
              exact ⟨ret_bool (by rw [HE.out]; exact (decide_eq_false HN.out).symm), bdrewN hb.out _⟩
          · have HN := Aside0.mk (show k.hs = k'.hs by have h1 := hp.out; have h2 := HLL.out; rwa [List.take_of_length_le (by omega), List.take_of_length_le (by omega)] at h1)
            clear hk
            go_wp2
            go_ret
            exact ⟨ret_bool (by rw [HE.out]; exact (decide_eq_true HN.out).symm), hb.out⟩
      · have b2 : ((k.hs.length : Int) != (k'.hs.length : Int)) = true := by simp; omega
        have b2' : (k.hs.length != k'.hs.length) = true := by simpa using hll
        have HN := Aside0.mk (show k.hs ≠ k'.hs from fun h => hll (by rw [h]))
        clear hll
        go_enter Try.func113, Try.ntmps113
        go_wp2_with fail
        go_quiet (fail)
        go_wp2
        go_ret
        exact ⟨ret_bool (by rw [HE.out]; exact (decide_eq_false HN.out).symm), bdrewN (Below.refl _ _) _⟩
    · have b1 : (k.ld != k'.ld) = true := by simp [h1]
      rw [decide_eq_false h1, Bool.false_and, Bool.and_false] at HE
      clear h0 h1
      go_enter Try.func113, Try.ntmps113
      go_wp2_with fail
      go_quiet (fail)
      go_wp2
      go_ret
      exact ⟨ret_bool HE.out.symm, bdrewN (Below.refl _ _) _⟩
  · have b0 : (k.wd != k'.wd) = true := by simp [h0]
    rw [decide_eq_false h0, Bool.false_and] at HE
    clear h0
    go_enter Try.func113, Try.ntmps113
    go_wp2_with fail
    go_quiet (fail)
    go_wp2
    go_ret
    exact ⟨ret_bool HE.out.symm, bdrewN (Below.refl _ _) _⟩
theorem specSameCase_c (k k' : Cs) (A A' : Option Addr) (c c' : Nat) (w : World) (hC : (Kd.int .i16).C w A k.hs.length k.hs) (hC' : (Kd.int .i16).C w A' k'.hs.length k'.hs) :
    Calls Try.prog 43 #[k.val A c, k'.val A' c'] w (Ret w (.bool (decide (k = k')))) := by
  have h2 := CsAt.box (w.alloc (.cells #[.int .i16 k.wd, .int .i32 k.ld, .slice A k.hs.length c] 51)) k' A' c' 51
  have h3 := l02Same_c k k' A A' c c' _ _ _ ((CsAt.box w k A c 51).below (balloc (Below.refl _ _) (.cells #[.int .i16 k'.wd, .int .i32 k'.ld, .slice A' k'.hs.length c'] 51))) h2 (Kd.C_alloc (Kd.C_alloc hC _) _) (Kd.C_alloc (Kd.C_alloc hC' _) _)
  simp only [World.size_alloc] at h3
  have HC := Aside0.mk h3
  have HB := Aside0.mk (balloc (balloc (Below.refl w.heap.size w) (.cells #[.int .i16 k.wd, .int .i32 k.ld, .slice A k.hs.length c] 51)) (.cells #[.int .i16 k'.wd, .int .i32 k'.ld, .slice A' k'.hs.length c'] 51))
  clear hC hC' h2 h3
  simp only [Cs.val]
  go_enter Try.func43, Try.ntmps43
  go_wp2_with fail
  refine HC.out.mono ?_; rintro _ w1 ⟨rfl, hb1⟩
  have HB1 := Aside0.mk (bstep HB.out hb1)
  clear hb1
  go_wp2_with fail
  go_ret
  exact ⟨rfl, HB1.out⟩
end Go.Proofs.Ytdippdkneeocfaa
