/- Runs of rows of books: the program's and the reference's. -/
import Derived.Test.YtgdhopcbiekhhaaRunM
import Derived.Test.YtgdhopcbiekhhaaRow
import Derived.Test.YtgdhopcbiekhhaaSorted
import Derived.StillTailTactics
import Derived.Still
import Derived.Deep.QuietTactic
import Derived.BigQuiet
namespace Go.Proofs.Ytgdhopcbiekhhaa
open Go.RowKit Go.Proofs.YtgdhopcbiekhhaaW.PrintWords Go.Proofs.YtgdhopcbiekhhaaW.PrintMore
set_option linter.unusedVariables false
set_option linter.unusedSimpArgs false
set_option maxRecDepth 100000

set_option maxHeartbeats 4000000 in
theorem runs_c (A : Option Addr) (c : Nat) (L : List Bk) (w : World) (hL : kBk.C w A L.length L) (hn : L.length ≤ 60) : Calls Try.prog 117 #[.slice A L.length c] w (RetQ w (NewI w (runsL L))) := by
  have hm := Kd.C_max hL
  have HL := Aside0.mk hL
  have HC := Aside0.mk (fun x y W => compare_c x y W)
  simp only [Bk.val] at HC
  clear hL
  go_enter Try.func117, Try.ntmps117
  go_wp2
  go_loopg [3, 8] L.length (fun gk v v8 wr => ∃ k : Nat, k + gk = L.length ∧ v8 = .int .i64 k ∧ Aside0 ((Kd.int .i64).R 2 wr w.heap.size (fun _ => True) v (runsN L k)) ∧ Aside0 (Below w.heap.size w wr))
  case atStart => exact ⟨0, by omega, rfl, ⟨Kd.R_nil _ _ _ _ _⟩, ⟨Below.refl _ _⟩⟩
  case round =>
    obtain ⟨k, hk, rfl, HR, HB⟩ := hrel
    have HK := Aside0.mk hk
    by_cases hlt : k < L.length
    · obtain ⟨ad, b, rfl, hbk, x0, x1, x2, x3, x4, x5, x6, x7⟩ := at_bk (Kd.C_below HL.out HB.out) k hlt
      clear hk
      by_cases hk0 : k = 0
      · have hq : ((k : Int) == 0) = true := by simp [hk0]
        have HS := Aside0.mk (runsN_yes (show startAt L k = true by simp [startAt, hk0]))
        have HL60 := Aside0.mk (runsN_len L k)
        clear hk0
        go_wp2_with fail
        have HR1 := Aside0.mk (Kd.R_alloc HR.out (.cells #[.int .i16 b.c, .int .u8 b.m0, .int .u8 b.m1, .int .u8 b.m2, .int .i16 b.v, .int .i16 b.wd, .int .i16 b.h, .int .i16 b.wt] 34))
        have HB1 := Aside0.mk (balloc HB.out (.cells #[.int .i16 b.c, .int .u8 b.m0, .int .u8 b.m1, .int .u8 b.m2, .int .i16 b.v, .int .i16 b.wd, .int .i16 b.h, .int .i16 b.wt] 34))
        clear HR HB x0 x1 x2 x3 x4 x5 x6 x7
        generalize World.alloc wr _ = W1 at HR1 HB1 ⊢
        go_quiet (fail)
        go_wp2_with (at_builtin; refine i64_append (w := w) rfl (.tmp 25) (.tmp 27) rfl _ (runsN L k) (k : Int) rfl rfl (Kd.R_drewN HR1.out _) (bdrewN HB1.out _) (by have := HL60.out; omega) ?_; intro v1 w1 hR1 hB1 _; have HR2 := Aside0.mk hR1; have HB2 := Aside0.mk hB1; clear hR1 hB1)
        go_roundg (gk - 1)
        case measure => have := HK.out; omega
        case rel => exact ⟨k + 1, by have := HK.out; omega, by go_num, ⟨by rw [HS.out]; exact HR2.out⟩, HB2⟩
      · have i0 : (0 : Int) ≤ (k : Int) - 1 := by omega
        have i1 : (k : Int) < (L.length : Int) := by omega
        have i2 : (k : Int) - 1 < (L.length : Int) := by omega
        have i3 : ((k : Int) - 1).toNat = k - 1 := by omega
        have i4 : (1 : Int) ≤ (k : Int) := by omega
        have i5 : (k : Int) < (L.length : Int) + 1 := by omega
        have i6 : 1 ≤ k := by omega
        obtain ⟨ad', b', e', hbk', hy⟩ := at_bk' (Kd.C_below HL.out HB.out) (k - 1) (by omega)
        injection e' with e'
        subst e'
        have HA := Aside0.mk (outAt_of hbk.out hbk'.out)
        have HK0 := Aside0.mk hk0
        have hq : ((k : Int) == 0) = false := by simp; omega
        have iw : IntKind.i64.wrap ((k : Int) - 1) = (k : Int) - 1 := by simp only [IntKind.wrap, IntKind.bits, IntKind.signed, Bool.true_and, decide_eq_true_eq, ge_iff_le]; split <;> omega
        clear hk0
        go_wp2_with fail
        have HR1 := Aside0.mk (Kd.R_alloc HR.out (.cells #[.int .i16 b.c, .int .u8 b.m0, .int .u8 b.m1, .int .u8 b.m2, .int .i16 b.v, .int .i16 b.wd, .int .i16 b.h, .int .i16 b.wt] 34))
        have HB1 := Aside0.mk (balloc HB.out (.cells #[.int .i16 b.c, .int .u8 b.m0, .int .u8 b.m1, .int .u8 b.m2, .int .i16 b.v, .int .i16 b.wd, .int .i16 b.h, .int .i16 b.wt] 34))
        obtain ⟨y0, y1, y2, y3, y4, y5, y6, y7⟩ := hy.below (balloc (Below.refl _ _) (.cells #[.int .i16 b.c, .int .u8 b.m0, .int .u8 b.m1, .int .u8 b.m2, .int .i16 b.v, .int .i16 b.wd, .int .i16 b.h, .int .i16 b.wt] 34))
        obtain ⟨z0, z1, z2, z3, z4, z5, z6, z7⟩ := BkAt.box wr b 34
        clear HR HB hy x0 x1 x2 x3 x4 x5 x6 x7
        generalize World.alloc wr _ = W1 at HR1 HB1 y0 y1 y2 y3 y4 y5 y6 y7 z0 z1 z2 z3 z4 z5 z6 z7 ⊢
        go_still_tail 9, (by kernel_rfl)
        go_wp2_with fail

        refine (HC.out _ _ _).mono ?_; rintro _ w1 ⟨rfl, hb1⟩
        have HR2 := Aside0.mk (Kd.R_below (Kd.R_drew HR1.out) hb1)
        have HB2 := Aside0.mk (bstep (bdrew HB1.out) hb1)
        clear hb1 y0 y1 y2 y3 y4 y5 y6 y7 z0 z1 z2 z3 z4 z5 z6 z7 HR1 HB1
        by_cases hlow : cmpU b b' < 0
        · have HS := Aside0.mk (runsN_yes (show startAt L k = true by unfold startAt; rw [HA.out]; simp [hlow]))
          have HL60 := Aside0.mk (runsN_len L k)
          go_wp2_with (at_builtin; refine i64_append (w := w) rfl (.tmp 25) (.tmp 27) rfl _ (runsN L k) (k : Int) rfl rfl HR2.out HB2.out (by have := HL60.out; omega) ?_; intro v1 w2 hR1 hB1 _; have HR3 := Aside0.mk hR1; have HB3 := Aside0.mk hB1; clear hR1 hB1)
          go_roundg (gk - 1)
          case measure => have := HK.out; omega
          case rel => exact ⟨k + 1, by have := HK.out; omega, by go_num, ⟨by rw [HS.out]; exact HR3.out⟩, HB3⟩
        · have HS := Aside0.mk (runsN_no (show startAt L k = false by unfold startAt; rw [HA.out]; simp [hlow]; exact HK0.out))
          go_wp2
          go_roundg (gk - 1)
          case measure => have := HK.out; omega
          case rel => exact ⟨k + 1, by have := HK.out; omega, by go_num, ⟨by rw [HS.out]; exact HR2.out⟩, HB2⟩
    · have HE := Aside0.mk (show runsN L k = runsL L by rw [show k = L.length by omega]; rfl)
      clear hk
      go_wp2
      go_ret
      exact ⟨_, rfl, HB.out, by have := HR.out; rw [HE.out] at this; exact this⟩
set_option maxHeartbeats 4000000 in
theorem l01Runs_c (A : Option Addr) (c : Nat) (L : List Bk) (w : World) (hL : kBk.C w A L.length L) (hok : ∀ b ∈ L, b.ok) (hn : L.length ≤ 60) : Calls Try.prog 118 #[.slice A L.length c] w (RetQ w (NewI w (runsL L))) := by
  have hm := Kd.C_max hL
  have HL := Aside0.mk hL
  have HO := Aside0.mk hok
  clear hL hok
  go_enter Try.func118, Try.ntmps118
  go_wp2
  go_loopg [3, 4] L.length (fun gk v v8 wr => ∃ k : Nat, k + gk = L.length ∧ v8 = .int .i64 k ∧ Aside0 ((Kd.int .i64).R 2 wr w.heap.size (fun _ => True) v (runsN L k)) ∧ Aside0 (Below w.heap.size w wr))
  case atStart => exact ⟨0, by omega, rfl, ⟨R_zero _ _ _ _ _ (Nat.le_refl _) trivial⟩, ⟨balloc (Below.refl _ _) _⟩⟩
  case round =>
    obtain ⟨k, hk, rfl, HR, HB⟩ := hrel
    have HK := Aside0.mk hk
    by_cases hlt : k < L.length
    · obtain ⟨ad, b, rfl, hbk, hx⟩ := at_bk' (Kd.C_below HL.out HB.out) k hlt
      clear hk
      have i7 : (0 : Int) ≤ (k : Int) := by omega
      have i1 : (k : Int) < (L.length : Int) := by omega
      by_cases hk0 : k = 0
      · have hq : ((k : Int) == 0) = true := by simp [hk0]
        have HS := Aside0.mk (runsN_yes (show startAt L k = true by simp [startAt, hk0]))
        have HL60 := Aside0.mk (runsN_len L k)
        clear hk0 hx
        go_wp2_with fail
        go_quiet (fail)
        go_wp2_with (at_builtin; refine i64_append (w := w) rfl (.tmp 25) (.tmp 27) rfl _ (runsN L k) (k : Int) rfl rfl (Kd.R_drewN HR.out _) (bdrewN HB.out _) (by have := HL60.out; omega) ?_; intro v1 w1 hR1 hB1 _; have HR2 := Aside0.mk hR1; have HB2 := Aside0.mk hB1; clear hR1 hB1)
        go_roundg (gk - 1)
        case measure => have := HK.out; omega
        case rel => exact ⟨k + 1, by have := HK.out; omega, by go_num, ⟨by rw [HS.out]; exact HR2.out⟩, HB2⟩
      · have i0 : (0 : Int) ≤ (k : Int) - 1 := by omega
        have i2 : (k : Int) - 1 < (L.length : Int) := by omega
        have i3 : ((k : Int) - 1).toNat = k - 1 := by omega
        have i4 : (1 : Int) ≤ (k : Int) := by omega
        have i5 : (k : Int) < (L.length : Int) + 1 := by omega
        have i6 : 1 ≤ k := by omega
        obtain ⟨ad', b', e', hbk', hy⟩ := at_bk' (Kd.C_below HL.out HB.out) (k - 1) (by omega)
        injection e' with e'
        subst e'
        have HX := Aside0.mk (l01Usual_c _ _ b b' (HO.out b (mem_of hbk.out)) (HO.out b' (mem_of hbk'.out)) _ (hx.below (bdrew (Below.refl _ _))) (hy.below (bdrew (Below.refl _ _))))
        have HA := Aside0.mk (outAt_of hbk.out hbk'.out)
        have HK0 := Aside0.mk hk0
        have hq : ((k : Int) == 0) = false := by simp; omega
        have iw : IntKind.i64.wrap ((k : Int) - 1) = (k : Int) - 1 := by simp only [IntKind.wrap, IntKind.bits, IntKind.signed, Bool.true_and, decide_eq_true_eq, ge_iff_le]; split <;> omega
        clear hk0 hx hy
        go_wp2_with fail
        go_still_tail 10, (by kernel_rfl)
        go_wp2_with fail
        refine HX.out.mono ?_; rintro _ w1 ⟨rfl, hb1⟩
        have HR2 := Aside0.mk (Kd.R_below (Kd.R_drew HR.out) hb1)
        have HB2 := Aside0.mk (bstep (bdrew HB.out) hb1)
        clear hb1 HR HB HX
        by_cases hlow : cmpU b b' < 0
        · have HS := Aside0.mk (runsN_yes (show startAt L k = true by unfold startAt; rw [HA.out]; simp [hlow]))
          have HL60 := Aside0.mk (runsN_len L k)
          go_wp2_with (at_builtin; refine i64_append (w := w) rfl (.tmp 25) (.tmp 27) rfl _ (runsN L k) (k : Int) rfl rfl HR2.out HB2.out (by have := HL60.out; omega) ?_; intro v1 w2 hR1 hB1 _; have HR3 := Aside0.mk hR1; have HB3 := Aside0.mk hB1; clear hR1 hB1)
          go_roundg (gk - 1)
          case measure => have := HK.out; omega
          case rel => exact ⟨k + 1, by have := HK.out; omega, by go_num, ⟨by rw [HS.out]; exact HR3.out⟩, HB3⟩
        · have HS := Aside0.mk (runsN_no (show startAt L k = false by unfold startAt; rw [HA.out]; simp [hlow]; exact HK0.out))
          go_wp2
          go_roundg (gk - 1)
          case measure => have := HK.out; omega
          case rel => exact ⟨k + 1, by have := HK.out; omega, by go_num, ⟨by rw [HS.out]; exact HR2.out⟩, HB2⟩
    · have HE := Aside0.mk (show runsN L k = runsL L by rw [show k = L.length by omega]; rfl)
      clear hk
      go_wp2
      go_ret
      exact ⟨_, rfl, HB.out, by have := HR.out; rw [HE.out] at this; exact this⟩
end Go.Proofs.Ytgdhopcbiekhhaa
