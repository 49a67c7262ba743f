/- The library's merge of two runs of books; The library's merge of two runs of books: a right run of one; The library's merge of two runs of books: the general step. -/
import Derived.Test.YtgdhopcbiekhhaaIns
import Derived.StillTailTactics
import Derived.Still
import Derived.Deep.QuietTactic
import Derived.BigQuiet
import Derived.BigRegion
import Derived.RegionTactic
import Derived.ChangeAlike
import Derived.WalkArith
namespace Go.Proofs.Ytgdhopcbiekhhaa
open Go.RowKit Go.Proofs.YtgdhopcbiekhhaaW.PrintWords Go.Proofs.YtgdhopcbiekhhaaW.PrintMore
set_option linter.unusedVariables false
set_option linter.unusedSimpArgs false
set_option maxRecDepth 100000

/-- Behind the call the elements from a to b stand merged. -/
def Merged (B : Nat) (ok : Nat → Prop) (w : World) (g n cap : Nat) (lt : Bk → Bk → Bool) (a b : Nat) (L : List Bk) (en : Ending) (w' : World) : Prop := en = .returned (.tuple #[]) ∧ ∃ L', RowIs B ok w g n cap L' w' ∧ L'.length = n ∧ Srt.Done lt a b L L'
theorem mid_eq {i j : Nat} (hi : i ≤ 1000000000) (hj : j ≤ 1000000000) : ((i : Int) + (j : Int)) / 2 = ((i + j) / 2 : Nat) := by omega
set_option maxHeartbeats 16000000 in
theorem merge1_c (g n cap : Nat) (L : List Bk) (a m b : Nat) (f : FuncId) (cf : Array Value) (cm : Bk → Bk → Int) (hw : Srt.Wk (ltC cm)) (B : Nat) (ok : Nat → Prop) (w W : World) (hR : RowIs B ok w g n cap L W) (hn : L.length = n) (hm : m = a + 1) (hP : Srt.Pre (ltC cm) L a m b) (h2 : m < b) (hb : b ≤ n) (hl : n ≤ 1000000000) (hC : CmpOk f cf cm g w) :
    Calls Try.prog 157 #[.slice (some ⟨g, 0, none⟩) n cap, .int .i64 a, .int .i64 m, .int .i64 b, .func (.func f) #[] cf] W (Merged B ok w g n cap (ltC cm) a b L) := by
  have HR := Aside0.mk hR
  have hcf := hC.fn.run
  have HC := Aside0.mk hC.call
  have HM := Aside0.mk hP
  have HN := Aside0.mk hn
  clear hR hC
  obtain ⟨x, hx⟩ : ∃ x, L[a]? = some x := ⟨_, List.getElem?_eq_getElem (by omega)⟩
  have HX := Aside0.mk hx
  have hma : (m : Int) - (a : Int) = 1 := by omega
  have HE := Aside0.mk hm
  have hma1 : a < m := by omega
  have HF := Aside0.mk (Srt.falls_left hw (hm ▸ hP))
  clear hx hn hm hP
  go_enter Try.func157, Try.ntmps157
  go_wp2
  go_loopg [10, 11] (b - m) (fun gk v10 v11 wr => ∃ (i j : Nat), gk = j - i ∧ v10 = .int .i64 i ∧ v11 = .int .i64 j ∧ Aside0 (Srt.Half (fun k => Srt.ltAt (ltC cm) L k a) m b i j) ∧ Aside0 (RowIs B ok w g n cap L wr))
  case atStart => exact ⟨m, b, rfl, rfl, rfl, ⟨Srt.Half.start (by omega)⟩, HR⟩
  case round =>
    clear HR
    obtain ⟨i, j, hg, rfl, rfl, HI, HR⟩ := hrel
    have hi := HI.out.1
    have hij := HI.out.2.1
    have hj := HI.out.2.2.1
    have h3 := HN.out
    by_cases hlt : i < j
    · have hmid := mid_eq (i := i) (j := j) (by omega) (by omega)
      obtain ⟨p0, p1, p2, p3, p4, p5, p6, p7, q0, q1, q2, q3, q4, q5, q6, q7⟩ := row_of HR.out.1 (show a < n by omega) HX.out
      obtain ⟨h, hh⟩ : ∃ h, h = (i + j) / 2 := ⟨_, rfl⟩
      have hh1 : i ≤ h ∧ h < j := by omega
      rw [← hh] at hmid
      clear hh
      obtain ⟨y, hy, r0, r1, r2, r3, r4, r5, r6, r7, s0, s1, s2, s3, s4, s5, s6, s7⟩ := row_at HR.out.1 (show h < n by omega)
      have i0 : (0 : Int) ≤ (h : Int) := by omega
      have i1 : (h : Int) < (n : Int) := by omega
      have i2 : (0 : Int) ≤ (a : Int) := by omega
      have i3 : (a : Int) < (n : Int) := by omega
      go_wp2_with fail
      go_still_tail 9, (by kernel_rfl)
      go_wp2_with fail
      refine (HC.out _ (gr_drew HR.out.2) y x).mono ?_; rintro _ w2 ⟨rfl, hb2⟩
      have HR2 := Aside0.mk (RowIs.below (RowIs.drew HR.out) hb2)
      have hla := Srt.ltAt_of (lt := ltC cm) hy.out HX.out
      clear hb2 p0 p1 p2 p3 p4 p5 p6 p7 q0 q1 q2 q3 q4 q5 q6 q7 r0 r1 r2 r3 r4 r5 r6 r7 s0 s1 s2 s3 s4 s5 s6 s7
      by_cases hc : cm y x < 0
      · have e4 : decide (cm y x < 0) = true := by simpa using hc
        have HH := Aside0.mk (HI.out.yes (by rw [HE.out]; exact HF.out) hh1.1 hh1.2 (hla.trans e4))
        clear hla
        go_wp2_with fail
        go_roundg (j - (h + 1))
        case measure => omega
        exact ⟨h + 1, j, rfl, by go_num, rfl, HH, HR2⟩
      · have e4 : decide (cm y x < 0) = false := by simpa using hc
        have HH := Aside0.mk (HI.out.no (by rw [HE.out]; exact HF.out) hh1.1 hh1.2 (hla.trans e4))
        clear hla
        go_wp2_with fail
        go_roundg (h - i)
        case measure => omega
        exact ⟨i, h, rfl, rfl, rfl, HH, HR2⟩
    · obtain rfl : i = j := by omega
      have HD := Aside0.mk (Srt.merge_left hw (HE.out ▸ HM.out) (show Srt.Half (fun k => Srt.ltAt (ltC cm) L k a) (a + 1) b i i by rw [← HE.out]; exact HI.out))
      obtain ⟨wo, rfl⟩ : ∃ wo : World, wo = wr := ⟨_, rfl⟩
      obtain ⟨gO, rfl⟩ : ∃ g : Nat, g = gk := ⟨_, rfl⟩
      clear hg h3 hlt hij
      go_wp2_with fail
      go_loopg [13] (i - (a + 1)) (fun gk v13 wr => ∃ (k : Nat) (D : List Bk), gk = i - (k + 1) ∧ v13 = .int .i64 k ∧ Aside0 (D.length = n ∧ Srt.upF D k gk = Srt.upF L a (i - (a + 1))) ∧ Aside0 (RowIs B ok w g n cap D wr))
      case atStart => exact ⟨a, L, rfl, rfl, ⟨HN.out, rfl⟩, HR⟩
      case round =>
        clear HR
        obtain ⟨k, D, hg, rfl, HL, HR⟩ := hrel
        by_cases hlt : k + 1 < i
        · obtain ⟨x, hx, p0, p1, p2, p3, p4, p5, p6, p7, q0, q1, q2, q3, q4, q5, q6, q7⟩ := row_at HR.out.1 (show k < n by omega)
          obtain ⟨y, hy, r0, r1, r2, r3, r4, r5, r6, r7, s0, s1, s2, s3, s4, s5, s6, s7⟩ := row_at HR.out.1 (show k + 1 < n by omega)
          have i0 : (0 : Int) ≤ (k : Int) := by omega
          have i1 : (k : Int) < (n : Int) := by omega
          have i2 : (0 : Int) ≤ (k : Int) + 1 := by omega
          have i3 : (k : Int) + 1 < (n : Int) := by omega
          have i4 : ((k : Int) + 1).toNat = k + 1 := by omega
          have i5 : (k : Int) < (i : Int) - 1 := by omega
          go_wp2_with fail
          go_region
          go_wp2
          go_roundg (gk - 1)
          case measure => omega
          refine ⟨k + 1, Srt.swp D k (k + 1), by omega, by go_num, ⟨?_, ?_⟩, ⟨exch HR.out (by omega) (by omega) hx.out hy.out (by simp only [Bk.cells, World.setCells, Nat.add_assoc, Nat.reduceAdd])⟩⟩
          · rw [Srt.swp_len]; exact HL.out.1
          · rw [← HL.out.2, show gk = (gk - 1) + 1 by omega, Srt.upF]; rfl
        · have i5 : ¬ (k : Int) < (i : Int) - 1 := by omega
          go_wp2_with fail
          have h1 := HL.out.2
          rw [show gk = 0 by omega, Srt.upF] at h1
          exact bodyPost_ret (v := .tuple #[]) (by simp [results, Try.results157, go_sem]) rfl ⟨rfl, _, by have := HR.out; rw [h1] at this; exact this, by rw [← h1]; exact HL.out.1, HD.out⟩
set_option maxHeartbeats 16000000 in
theorem merge2_c (g n cap : Nat) (L : List Bk) (a m b : Nat) (f : FuncId) (cf : Array Value) (cm : Bk → Bk → Int) (hw : Srt.Wk (ltC cm)) (B : Nat) (ok : Nat → Prop) (w W : World) (hR : RowIs B ok w g n cap L W) (hn : L.length = n) (hm : b = m + 1) (hma : m ≠ a + 1) (hP : Srt.Pre (ltC cm) L a m b) (h1 : a < m) (hb : b ≤ n) (hl : n ≤ 1000000000) (hC : CmpOk f cf cm g w) :
    Calls Try.prog 157 #[.slice (some ⟨g, 0, none⟩) n cap, .int .i64 a, .int .i64 m, .int .i64 b, .func (.func f) #[] cf] W (Merged B ok w g n cap (ltC cm) a b L) := by
  have HR := Aside0.mk hR
  have hcf := hC.fn.run
  have HC := Aside0.mk hC.call
  have HM := Aside0.mk hP
  have HN := Aside0.mk hn
  clear hR hC
  obtain ⟨x, hx⟩ : ∃ x, L[m]? = some x := ⟨_, List.getElem?_eq_getElem (by omega)⟩
  have HX := Aside0.mk hx
  have hbm : (b : Int) - (m : Int) = 1 := by omega
  have hna : ((m : Int) - (a : Int) == 1) = false := by simp; omega
  have HE := Aside0.mk hm
  have hmb : m < b := by omega
  have hmn : m < n := by omega
  have HF := Aside0.mk (Srt.falls_right hw (hm ▸ hP))
  clear hx hn hm hP hma
  go_enter Try.func157, Try.ntmps157
  go_wp2
  go_loopg [14, 15] (m - a) (fun gk v14 v15 wr => ∃ (i j : Nat), gk = j - i ∧ v14 = .int .i64 i ∧ v15 = .int .i64 j ∧ Aside0 (Srt.Half (fun k => !Srt.ltAt (ltC cm) L m k) a m i j) ∧ Aside0 (RowIs B ok w g n cap L wr))
  case atStart => exact ⟨a, m, rfl, rfl, rfl, ⟨Srt.Half.start (by omega)⟩, HR⟩
  case round =>
    clear HR
    obtain ⟨i, j, hg, rfl, rfl, HI, HR⟩ := hrel
    have hi := HI.out.1
    have hij := HI.out.2.1
    have hj := HI.out.2.2.1
    have h3 := HN.out
    by_cases hlt : i < j
    · have hmid := mid_eq (i := i) (j := j) (by omega) (by omega)
      obtain ⟨p0, p1, p2, p3, p4, p5, p6, p7, q0, q1, q2, q3, q4, q5, q6, q7⟩ := row_of HR.out.1 (show m < n by omega) HX.out
      obtain ⟨h, hh⟩ : ∃ h, h = (i + j) / 2 := ⟨_, rfl⟩
      have hh1 : i ≤ h ∧ h < j := by omega
      rw [← hh] at hmid
      clear hh
      obtain ⟨y, hy, r0, r1, r2, r3, r4, r5, r6, r7, s0, s1, s2, s3, s4, s5, s6, s7⟩ := row_at HR.out.1 (show h < n by omega)
      have i0 : (0 : Int) ≤ (h : Int) := by omega
      have i1 : (h : Int) < (n : Int) := by omega
      have i2 : (0 : Int) ≤ (m : Int) := by omega
      have i3 : (m : Int) < (n : Int) := by omega
      go_wp2_with fail
      go_still_tail 9, (by kernel_rfl)
      go_wp2_with fail
      refine (HC.out _ (gr_drew HR.out.2) x y).mono ?_; rintro _ w2 ⟨rfl, hb2⟩
      have HR2 := Aside0.mk (RowIs.below (RowIs.drew HR.out) hb2)
      have hla := Srt.ltAt_of (lt := ltC cm) HX.out hy.out
      clear hb2 p0 p1 p2 p3 p4 p5 p6 p7 q0 q1 q2 q3 q4 q5 q6 q7 r0 r1 r2 r3 r4 r5 r6 r7 s0 s1 s2 s3 s4 s5 s6 s7
      by_cases hc : cm x y < 0
      · have e4 : decide (cm x y < 0) = true := by simpa using hc
        have HH := Aside0.mk (HI.out.no HF.out hh1.1 hh1.2 (by show (!Srt.ltAt (ltC cm) L m h) = _; rw [hla, show ltC cm x y = _ from e4]; rfl))
        clear hla
        go_wp2_with fail
        go_roundg (h - i)
        case measure => omega
        exact ⟨i, h, rfl, rfl, rfl, HH, HR2⟩
      · have e4 : decide (cm x y < 0) = false := by simpa using hc
        have HH := Aside0.mk (HI.out.yes HF.out hh1.1 hh1.2 (by show (!Srt.ltAt (ltC cm) L m h) = _; rw [hla, show ltC cm x y = _ from e4]; rfl))
        clear hla
        go_wp2_with fail
        go_roundg (j - (h + 1))
        case measure => omega
        exact ⟨h + 1, j, rfl, by go_num, rfl, HH, HR2⟩
    · obtain rfl : i = j := by omega
      have HD := Aside0.mk (Srt.merge_right hw (HE.out ▸ HM.out) HI.out)
      obtain ⟨wo, rfl⟩ : ∃ wo : World, wo = wr := ⟨_, rfl⟩
      obtain ⟨gO, rfl⟩ : ∃ g : Nat, g = gk := ⟨_, rfl⟩
      clear hg h3 hlt hij
      go_wp2_with fail
      go_loopg [17] (m - i) (fun gk v17 wr => ∃ (k : Nat) (D : List Bk), i + gk = k ∧ v17 = .int .i64 k ∧ Aside0 (k ≤ m) ∧ Aside0 (D.length = n ∧ Srt.downF D k gk = Srt.downF L m (m - i)) ∧ Aside0 (RowIs B ok w g n cap D wr))
      case atStart => exact ⟨m, L, by omega, rfl, ⟨Nat.le_refl _⟩, ⟨HN.out, rfl⟩, HR⟩
      case round =>
        clear HR
        obtain ⟨k, D, hg, rfl, HKM, HL, HR⟩ := hrel
        have hkm := HKM.out
        by_cases hlt : i < k
        · obtain ⟨x, hx, p0, p1, p2, p3, p4, p5, p6, p7, q0, q1, q2, q3, q4, q5, q6, q7⟩ := row_at HR.out.1 (show k < n by omega)
          obtain ⟨y, hy, r0, r1, r2, r3, r4, r5, r6, r7, s0, s1, s2, s3, s4, s5, s6, s7⟩ := row_at HR.out.1 (show k - 1 < n by omega)
          have HG := Aside0.mk hg
          clear hg
          have i0 : (0 : Int) ≤ (k : Int) := by omega
          have i1 : (k : Int) < (n : Int) := by omega
          have i2 : (0 : Int) ≤ (k : Int) - 1 := by omega
          have i3 : (k : Int) - 1 < (n : Int) := by omega
          have i5 : ((k : Int) - 1).toNat = k - 1 := by omega
          have i6 : IntKind.i64.wrap ((k : Int) - 1) = (k : Int) - 1 := by simp only [IntKind.wrap, IntKind.bits, IntKind.signed, Bool.true_and, decide_eq_true_eq, ge_iff_le]; split <;> omega
          have i7 : (1 : Int) ≤ (k : Int) := by omega
          have i8 : (k : Int) < (n : Int) + 1 := by omega
          have e5 : ((k - 1 : Nat) : Int) = (k : Int) - 1 := by omega
          go_wp2_with fail
          go_region
          go_wp2
          have hg := HG.out
          go_roundg (gk - 1)
          case measure => omega
          refine ⟨k - 1, Srt.swp D k (k - 1), by omega, by rw [e5], ⟨by omega⟩, ⟨?_, ?_⟩, ⟨exch HR.out (by omega) (by omega) hx.out hy.out (by simp only [Bk.cells, World.setCells, Nat.add_assoc, Nat.reduceAdd])⟩⟩
          · rw [Srt.swp_len]; exact HL.out.1
          · rw [← HL.out.2, show gk = (gk - 1) + 1 by omega, Srt.downF]; rfl
        · go_wp2_with fail
          have h1 := HL.out.2
          rw [show gk = 0 by omega, Srt.downF] at h1
          exact bodyPost_ret (v := .tuple #[]) (by simp [results, Try.results157, go_sem]) rfl ⟨rfl, _, by have := HR.out; rw [h1] at this; exact this, by rw [← h1]; exact HL.out.1, by rw [HE.out]; exact HD.out⟩
theorem rotd_l {α : Type} (L : List α) (m e : Nat) (h : m ≤ e) : Srt.rotd L m m e = L := by
  unfold Srt.rotd
  have h1 : (L.take m).drop m = [] := List.drop_of_length_le (by simp; omega)
  rw [h1, List.nil_append]
  have h2 : (L.take e).drop m ++ L.drop e = L.drop m := by
    rw [List.drop_take]
    have := List.take_append_drop (e - m) (L.drop m)
    rw [List.drop_drop, show m + (e - m) = e by omega] at this
    exact this
  rw [h2, List.take_append_drop]
theorem rotd_r {α : Type} (L : List α) (s m : Nat) (h : s ≤ m) : Srt.rotd L s m m = L := by
  unfold Srt.rotd
  have h1 : (L.take m).drop m = [] := List.drop_of_length_le (by simp; omega)
  rw [h1, List.nil_append]
  have h2 : (L.take m).drop s ++ L.drop m = L.drop s := by
    rw [List.drop_take]
    have := List.take_append_drop (m - s) (L.drop s)
    rw [List.drop_drop, show s + (m - s) = m by omega] at this
    exact this
  rw [h2, List.take_append_drop]
/-- What a call of the merge does. -/
def MergeOk (g n cap : Nat) (f : FuncId) (cf : Array Value) (cm : Bk → Bk → Int) (B : Nat) (ok : Nat → Prop) (w : World) (a m b : Nat) : Prop :=
  ∀ (L : List Bk) (W : World), RowIs B ok w g n cap L W → L.length = n → Srt.Pre (ltC cm) L a m b → a < m → m < b → b ≤ n →
    Calls Try.prog 157 #[.slice (some ⟨g, 0, none⟩) n cap, .int .i64 a, .int .i64 m, .int .i64 b, .func (.func f) #[] cf] W (Merged B ok w g n cap (ltC cm) a b L)
set_option maxHeartbeats 32000000 in
theorem merge3_c (g n cap : Nat) (L : List Bk) (a m b : Nat) (f : FuncId) (cf : Array Value) (cm : Bk → Bk → Int) (hw : Srt.Wk (ltC cm)) (B : Nat) (ok : Nat → Prop) (w W : World) (hR : RowIs B ok w g n cap L W) (hn : L.length = n) (hm1 : m ≠ a + 1) (hm2 : b ≠ m + 1) (hP : Srt.Pre (ltC cm) L a m b) (h1 : a < m) (h2 : m < b) (hb : b ≤ n) (hl : n ≤ 1000000000) (hC : CmpOk f cf cm g w)
    (hI : ∀ a' m' b', b' - a' < b - a → MergeOk g n cap f cf cm B ok w a' m' b') :
    Calls Try.prog 157 #[.slice (some ⟨g, 0, none⟩) n cap, .int .i64 a, .int .i64 m, .int .i64 b, .func (.func f) #[] cf] W (Merged B ok w g n cap (ltC cm) a b L) := by
  have HR := Aside0.mk hR
  have hcf := hC.fn.run
  have HC := Aside0.mk hC.call
  have HN := Aside0.mk hn
  have HIH := Aside0.mk hI
  have HRG := Aside0.mk (Srt.range_ok h1 h2)
  have HF := Aside0.mk (Srt.falls_gen hw hP h1 h2)
  have HST := Aside0.mk (fun s => Srt.step_gen hw (s := s) hP h1 h2)
  have hna : ((m : Int) - (a : Int) == 1) = false := by simp; omega
  have hnb : ((b : Int) - (m : Int) == 1) = false := by simp; omega
  have hmid := mid_eq (i := a) (j := b) (by omega) (by omega)
  obtain ⟨d, hd⟩ : ∃ d, d = (a + b) / 2 := ⟨_, rfl⟩
  have hd1 : a < d ∧ d < b := by omega
  have HDD := Aside0.mk hd
  rw [← hd] at hmid
  have HHF := Aside0.mk (show Srt.Half (Srt.test (ltC cm) L a m b) (Srt.lo0 a m b) (Srt.hi0 a m b) (Srt.lo0 a m b) (Srt.hi0 a m b) from Srt.Half.start HRG.out.2.1)
  clear hR hC hn hI hm1 hm2 hP hd
  by_cases hdm : d < m
  · have HLO := Aside0.mk (show Srt.lo0 a m b = (d + m - b) by have := HDD.out; unfold Srt.lo0; rw [if_pos (by omega)]; omega)
    have HHI := Aside0.mk (show Srt.hi0 a m b = d by have := HDD.out; unfold Srt.hi0; rw [if_pos (by omega)]; omega)
    have hlo : 0 ≤ (d : Int) + (m : Int) - (b : Int) := by have := HRG.out; have := HDD.out; omega
    go_enter Try.func157, Try.ntmps157
    go_wp2
    go_loopg [20, 21] (Srt.hi0 a m b - Srt.lo0 a m b) (fun gk v20 v21 wr => ∃ (i j : Nat), gk = j - i ∧ v20 = .int .i64 i ∧ v21 = .int .i64 j ∧ Aside0 (Srt.Half (Srt.test (ltC cm) L a m b) (Srt.lo0 a m b) (Srt.hi0 a m b) i j) ∧ Aside0 (RowIs B ok w g n cap L wr))
    case atStart =>
      refine ⟨Srt.lo0 a m b, Srt.hi0 a m b, rfl, ?_, ?_, HHF, HR⟩
      · rw [HLO.out] <;> (congr 1; omega)
      · rw [HHI.out]
    case round =>
      clear HR
      obtain ⟨i, j, hg, rfl, rfl, HI, HR⟩ := hrel
      have hi := HI.out.1
      have hij := HI.out.2.1
      have hj := HI.out.2.2.1
      have h3 := HN.out
      have h4 := HRG.out
      have h5 := HDD.out
      rw [← h5] at h4
      have hiB : a ≤ i ∧ d + m ≤ i + b ∧ j ≤ m ∧ j ≤ d := by omega
      clear hi hj h4 h5
      by_cases hlt : i < j
      · have hmid := mid_eq (i := i) (j := j) (by omega) (by omega)
        obtain ⟨h, hh⟩ : ∃ h, h = (i + j) / 2 := ⟨_, rfl⟩
        have hh1 : i ≤ h ∧ h < j := by omega
        rw [← hh] at hmid
        clear hh
        obtain ⟨q, hq⟩ : ∃ q : Nat, q = d + m - 1 - h := ⟨_, rfl⟩
        have hq1 : (d : Int) + (m : Int) - 1 - (h : Int) = (q : Int) := by omega
        have hq2 : q < n := by omega
        have HQ := Aside0.mk hq
        clear hq
        obtain ⟨y, hy, p0, p1, p2, p3, p4, p5, p6, p7, q0, q1, q2, q3, q4, q5, q6, q7⟩ := row_at HR.out.1 (show h < n by omega)
        obtain ⟨x, hx, r0, r1, r2, r3, r4, r5, r6, r7, s0, s1, s2, s3, s4, s5, s6, s7⟩ := row_at HR.out.1 (show q < n by omega)
        have i0 : (0 : Int) ≤ (h : Int) := by omega
        have i1 : (h : Int) < (n : Int) := by omega
        have i2 : (0 : Int) ≤ (q : Int) := by omega
        have i3 : (q : Int) < (n : Int) := by omega
        have i6 : IntKind.i64.wrap (q : Int) = (q : Int) := by simp only [IntKind.wrap, IntKind.bits, IntKind.signed, Bool.true_and, decide_eq_true_eq, ge_iff_le]; split <;> omega
        have htest : Srt.test (ltC cm) L a m b h = !(ltC cm x y) := by
          unfold Srt.test
          rw [← HDD.out, ← HQ.out, Srt.ltAt_of hx.out hy.out]
        have HT := Aside0.mk htest
        clear htest
        go_wp2_with fail
        go_still_tail 11, (by kernel_rfl)
        go_wp2_with fail
        refine (HC.out _ (gr_drew HR.out.2) x y).mono ?_; rintro _ w2 ⟨rfl, hb2⟩
        have HR2 := Aside0.mk (RowIs.below (RowIs.drew HR.out) hb2)
        clear hb2 p0 p1 p2 p3 p4 p5 p6 p7 q0 q1 q2 q3 q4 q5 q6 q7 r0 r1 r2 r3 r4 r5 r6 r7 s0 s1 s2 s3 s4 s5 s6 s7
        by_cases hc : cm x y < 0
        · have e4 : decide (cm x y < 0) = true := by simpa using hc
          have HH := Aside0.mk (HI.out.no HF.out hh1.1 hh1.2 (HT.out.trans (by rw [show ltC cm x y = _ from e4]; rfl)))
          go_wp2_with fail
          go_roundg (h - i)
          case measure => omega
          exact ⟨i, h, rfl, rfl, rfl, HH, HR2⟩
        · have e4 : decide (cm x y < 0) = false := by simpa using hc
          have HH := Aside0.mk (HI.out.yes HF.out hh1.1 hh1.2 (HT.out.trans (by rw [show ltC cm x y = _ from e4]; rfl)))
          go_wp2_with fail
          go_roundg (j - (h + 1))
          case measure => omega
          exact ⟨h + 1, j, rfl, by go_num, rfl, HH, HR2⟩
      · obtain rfl : i = j := by omega
        have hS := HST.out i HI.out
        obtain ⟨t, ht⟩ : ∃ t : Nat, t = d + m - i := ⟨_, rfl⟩
        have ht1 : (d : Int) + (m : Int) - (i : Int) = (t : Int) := by omega
        have hle := hS.le1
        rw [← HDD.out, ← ht] at hle
        have hS1 : ∃ L1, L1 = Srt.rotd L i m t := ⟨_, rfl⟩
        obtain ⟨L1, hL1⟩ := hS1
        have hL1n : L1.length = n := by rw [hL1, Srt.rotd_len L hle.2.1 hle.2.2.1 (by rw [HN.out]; omega)]; exact HN.out
        have HSL := Aside0.mk (show Srt.Pre (ltC cm) L1 a i d by have := hS.left; rw [← HDD.out, ← ht, ← hL1] at this; exact this)
        have HSR := Aside0.mk (show ∀ L2, Srt.Done (ltC cm) a d L1 L2 → Srt.Pre (ltC cm) L2 d t b by have := hS.right; rw [← HDD.out, ← ht, ← hL1] at this; exact this)
        have HSA := Aside0.mk (show ∀ L2 L3, Srt.Done (ltC cm) a d L1 L2 → Srt.Done (ltC cm) d b L2 L3 → Srt.Done (ltC cm) a b L L3 by have := hS.all; rw [← HDD.out, ← ht, ← hL1] at this; exact this)
        have HL1 := Aside0.mk hL1
        have HLN := Aside0.mk hL1n
        clear hS ht hL1 hL1n hij hg
        by_cases hg1 : i < m ∧ m < t
        · have e1 : decide ((i : Int) < (m : Int)) = true := by simpa using hg1.1
          have e2 : decide ((m : Int) < (t : Int)) = true := by simpa using hg1.2
          go_wp2_with fail
          refine (rotate_c g n cap L i m t _ B ok w _ HR.out HN.out hg1.1 hg1.2 (by omega) hl).mono ?_
          rintro e w3 ⟨rfl, h6⟩
          have H1 := Aside0.mk (show RowIs B ok w g n cap L1 w3 by rw [HL1.out]; exact h6)
          clear h6
          by_cases hg2 : a < i ∧ i < d
          · have e3 : decide ((a : Int) < (i : Int)) = true := by simpa using hg2.1
            have e4 : decide ((i : Int) < (d : Int)) = true := by simpa using hg2.2
            go_wp2_with fail
            refine (HIH.out a i d (by omega) L1 _ H1.out HLN.out HSL.out hg2.1 hg2.2 (by omega)).mono ?_
            rintro e w4 ⟨rfl, L2, h6, h7, h8⟩
            have H2 := Aside0.mk h6
            have HD2 := Aside0.mk h8
            have HL2 := Aside0.mk h7
            clear h6 h7 h8
            by_cases hg3 : d < t ∧ t < b
            · have e5 : decide ((d : Int) < (t : Int)) = true := by simpa using hg3.1
              have e6 : decide ((t : Int) < (b : Int)) = true := by simpa using hg3.2
              go_wp2_with fail
              refine (HIH.out d t b (by omega) L2 _ H2.out HL2.out (HSR.out L2 HD2.out) hg3.1 hg3.2 hb).mono ?_
              rintro e w5 ⟨rfl, L3, h6, h7, h8⟩
              have H3 := Aside0.mk h6
              have HD3 := Aside0.mk h8
              have HL3 := Aside0.mk h7
              clear h6 h7 h8
              go_wp2_with fail
              exact bodyPost_end (v := .tuple #[]) (by simp [results, Try.results157, go_sem]) rfl ⟨rfl, L3, H3.out, HL3.out, HSA.out L2 L3 HD2.out HD3.out⟩
            · have HD3 := Aside0.mk (Srt.Pre.done (HSR.out L2 HD2.out) (by omega))
              by_cases hg4 : d < t
              · have e5 : decide ((d : Int) < (t : Int)) = true := by simpa using hg4
                have e6 : decide ((t : Int) < (b : Int)) = false := by simp; omega
                go_wp2_with fail
                exact bodyPost_end (v := .tuple #[]) (by simp [results, Try.results157, go_sem]) rfl ⟨rfl, L2, H2.out, HL2.out, HSA.out L2 L2 HD2.out HD3.out⟩
              · have e5 : decide ((d : Int) < (t : Int)) = false := by simpa using hg4
                go_wp2_with fail
                exact bodyPost_end (v := .tuple #[]) (by simp [results, Try.results157, go_sem]) rfl ⟨rfl, L2, H2.out, HL2.out, HSA.out L2 L2 HD2.out HD3.out⟩
          · have HD2 := Aside0.mk (Srt.Pre.done HSL.out (by omega))
            obtain ⟨L2, rfl⟩ : ∃ L2, L2 = L1 := ⟨_, rfl⟩
            have H2 := H1
            have HL2 := HLN
            by_cases hg5 : a < i
            · have e3 : decide ((a : Int) < (i : Int)) = true := by simpa using hg5
              have e4 : decide ((i : Int) < (d : Int)) = false := by simp; omega
              by_cases hg3 : d < t ∧ t < b
              · have e5 : decide ((d : Int) < (t : Int)) = true := by simpa using hg3.1
                have e6 : decide ((t : Int) < (b : Int)) = true := by simpa using hg3.2
                go_wp2_with fail
              · have HD3 := Aside0.mk (Srt.Pre.done (HSR.out L2 HD2.out) (by omega))
                by_cases hg4 : d < t
                · have e5 : decide ((d : Int) < (t : Int)) = true := by simpa using hg4
                  have e6 : decide ((t : Int) < (b : Int)) = false := by simp; omega
                  go_wp2_with fail
                · have e5 : decide ((d : Int) < (t : Int)) = false := by simpa using hg4
                  go_wp2_with fail
            · have e3 : decide ((a : Int) < (i : Int)) = false := by simpa using hg5
              by_cases hg3 : d < t ∧ t < b
              · have e5 : decide ((d : Int) < (t : Int)) = true := by simpa using hg3.1
                have e6 : decide ((t : Int) < (b : Int)) = true := by simpa using hg3.2
                go_wp2_with fail
                refine (HIH.out d t b (by omega) L2 _ H2.out HL2.out (HSR.out L2 HD2.out) hg3.1 hg3.2 hb).mono ?_
                rintro e w5 ⟨rfl, L3, h6, h7, h8⟩
                have H3 := Aside0.mk h6
                have HD3 := Aside0.mk h8
                have HL3 := Aside0.mk h7
                clear h6 h7 h8
                go_wp2_with fail
                exact bodyPost_end (v := .tuple #[]) (by simp [results, Try.results157, go_sem]) rfl ⟨rfl, L3, H3.out, HL3.out, HSA.out L2 L3 HD2.out HD3.out⟩
              · have HD3 := Aside0.mk (Srt.Pre.done (HSR.out L2 HD2.out) (by omega))
                by_cases hg4 : d < t
                · have e5 : decide ((d : Int) < (t : Int)) = true := by simpa using hg4
                  have e6 : decide ((t : Int) < (b : Int)) = false := by simp; omega
                  go_wp2_with fail
                  exact bodyPost_end (v := .tuple #[]) (by simp [results, Try.results157, go_sem]) rfl ⟨rfl, L2, H2.out, HL2.out, HSA.out L2 L2 HD2.out HD3.out⟩
                · have e5 : decide ((d : Int) < (t : Int)) = false := by simpa using hg4
                  go_wp2_with fail
                  exact bodyPost_end (v := .tuple #[]) (by simp [results, Try.results157, go_sem]) rfl ⟨rfl, L2, H2.out, HL2.out, HSA.out L2 L2 HD2.out HD3.out⟩
        · have H1 := Aside0.mk (show RowIs B ok w g n cap L1 wr by
            rw [HL1.out]
            rcases (show i = m ∨ m = t by omega) with e | e
            · rw [← e, rotd_l L i t (by omega)]; exact HR.out
            · rw [← e, rotd_r L i m (by omega)]; exact HR.out)
          by_cases hg6 : i < m
          · have e1 : decide ((i : Int) < (m : Int)) = true := by simpa using hg6
            have e2 : decide ((m : Int) < (t : Int)) = false := by simp; omega
            by_cases hg2 : a < i ∧ i < d
            · have e3 : decide ((a : Int) < (i : Int)) = true := by simpa using hg2.1
              have e4 : decide ((i : Int) < (d : Int)) = true := by simpa using hg2.2
              go_wp2_with fail
            · have HD2 := Aside0.mk (Srt.Pre.done HSL.out (by omega))
              obtain ⟨L2, rfl⟩ : ∃ L2, L2 = L1 := ⟨_, rfl⟩
              have H2 := H1
              have HL2 := HLN
              by_cases hg5 : a < i
              · have e3 : decide ((a : Int) < (i : Int)) = true := by simpa using hg5
                have e4 : decide ((i : Int) < (d : Int)) = false := by simp; omega
                by_cases hg3 : d < t ∧ t < b
                · have e5 : decide ((d : Int) < (t : Int)) = true := by simpa using hg3.1
                  have e6 : decide ((t : Int) < (b : Int)) = true := by simpa using hg3.2
                  go_wp2_with fail
                  refine (HIH.out d t b (by omega) L2 _ H2.out HL2.out (HSR.out L2 HD2.out) hg3.1 hg3.2 hb).mono ?_
                  rintro e w5 ⟨rfl, L3, h6, h7, h8⟩
                  have H3 := Aside0.mk h6
                  have HD3 := Aside0.mk h8
                  have HL3 := Aside0.mk h7
                  clear h6 h7 h8
                  go_wp2_with fail
                  exact bodyPost_end (v := .tuple #[]) (by simp [results, Try.results157, go_sem]) rfl ⟨rfl, L3, H3.out, HL3.out, HSA.out L2 L3 HD2.out HD3.out⟩
                · have HD3 := Aside0.mk (Srt.Pre.done (HSR.out L2 HD2.out) (by omega))
                  by_cases hg4 : d < t
                  · have e5 : decide ((d : Int) < (t : Int)) = true := by simpa using hg4
                    have e6 : decide ((t : Int) < (b : Int)) = false := by simp; omega
                    go_wp2_with fail
                  · have e5 : decide ((d : Int) < (t : Int)) = false := by simpa using hg4
                    go_wp2_with fail
              · have e3 : decide ((a : Int) < (i : Int)) = false := by simpa using hg5
                by_cases hg3 : d < t ∧ t < b
                · have e5 : decide ((d : Int) < (t : Int)) = true := by simpa using hg3.1
                  have e6 : decide ((t : Int) < (b : Int)) = true := by simpa using hg3.2
                  go_wp2_with fail
                · have HD3 := Aside0.mk (Srt.Pre.done (HSR.out L2 HD2.out) (by omega))
                  by_cases hg4 : d < t
                  · have e5 : decide ((d : Int) < (t : Int)) = true := by simpa using hg4
                    have e6 : decide ((t : Int) < (b : Int)) = false := by simp; omega
                    go_wp2_with fail
                  · have e5 : decide ((d : Int) < (t : Int)) = false := by simpa using hg4
                    go_wp2_with fail
          · have e1 : decide ((i : Int) < (m : Int)) = false := by simpa using hg6
            by_cases hg2 : a < i ∧ i < d
            · have e3 : decide ((a : Int) < (i : Int)) = true := by simpa using hg2.1
              have e4 : decide ((i : Int) < (d : Int)) = true := by simpa using hg2.2
              go_wp2_with fail
              refine (HIH.out a i d (by omega) L1 _ H1.out HLN.out HSL.out hg2.1 hg2.2 (by omega)).mono ?_
              rintro e w4 ⟨rfl, L2, h6, h7, h8⟩
              have H2 := Aside0.mk h6
              have HD2 := Aside0.mk h8
              have HL2 := Aside0.mk h7
              clear h6 h7 h8
              by_cases hg3 : d < t ∧ t < b
              · have e5 : decide ((d : Int) < (t : Int)) = true := by simpa using hg3.1
                have e6 : decide ((t : Int) < (b : Int)) = true := by simpa using hg3.2
                go_wp2_with fail
                refine (HIH.out d t b (by omega) L2 _ H2.out HL2.out (HSR.out L2 HD2.out) hg3.1 hg3.2 hb).mono ?_
                rintro e w5 ⟨rfl, L3, h6, h7, h8⟩
                have H3 := Aside0.mk h6
                have HD3 := Aside0.mk h8
                have HL3 := Aside0.mk h7
                clear h6 h7 h8
                go_wp2_with fail
                exact bodyPost_end (v := .tuple #[]) (by simp [results, Try.results157, go_sem]) rfl ⟨rfl, L3, H3.out, HL3.out, HSA.out L2 L3 HD2.out HD3.out⟩
              · have HD3 := Aside0.mk (Srt.Pre.done (HSR.out L2 HD2.out) (by omega))
                by_cases hg4 : d < t
                · have e5 : decide ((d : Int) < (t : Int)) = true := by simpa using hg4
                  have e6 : decide ((t : Int) < (b : Int)) = false := by simp; omega
                  go_wp2_with fail
                · have e5 : decide ((d : Int) < (t : Int)) = false := by simpa using hg4
                  go_wp2_with fail
                  exact bodyPost_end (v := .tuple #[]) (by simp [results, Try.results157, go_sem]) rfl ⟨rfl, L2, H2.out, HL2.out, HSA.out L2 L2 HD2.out HD3.out⟩
            · have HD2 := Aside0.mk (Srt.Pre.done HSL.out (by omega))
              obtain ⟨L2, rfl⟩ : ∃ L2, L2 = L1 := ⟨_, rfl⟩
              have H2 := H1
              have HL2 := HLN
              by_cases hg5 : a < i
              · have e3 : decide ((a : Int) < (i : Int)) = true := by simpa using hg5
                have e4 : decide ((i : Int) < (d : Int)) = false := by simp; omega
                by_cases hg3 : d < t ∧ t < b
                · have e5 : decide ((d : Int) < (t : Int)) = true := by simpa using hg3.1
                  have e6 : decide ((t : Int) < (b : Int)) = true := by simpa using hg3.2
                  go_wp2_with fail
                · have HD3 := Aside0.mk (Srt.Pre.done (HSR.out L2 HD2.out) (by omega))
                  by_cases hg4 : d < t
                  · have e5 : decide ((d : Int) < (t : Int)) = true := by simpa using hg4
                    have e6 : decide ((t : Int) < (b : Int)) = false := by simp; omega
                    go_wp2_with fail
                  · have e5 : decide ((d : Int) < (t : Int)) = false := by simpa using hg4
                    go_wp2_with fail
              · have e3 : decide ((a : Int) < (i : Int)) = false := by simpa using hg5
                by_cases hg3 : d < t ∧ t < b
                · have e5 : decide ((d : Int) < (t : Int)) = true := by simpa using hg3.1
                  have e6 : decide ((t : Int) < (b : Int)) = true := by simpa using hg3.2
                  go_wp2_with fail
                  refine (HIH.out d t b (by omega) L2 _ H2.out HL2.out (HSR.out L2 HD2.out) hg3.1 hg3.2 hb).mono ?_
                  rintro e w5 ⟨rfl, L3, h6, h7, h8⟩
                  have H3 := Aside0.mk h6
                  have HD3 := Aside0.mk h8
                  have HL3 := Aside0.mk h7
                  clear h6 h7 h8
                  go_wp2_with fail
                  exact bodyPost_end (v := .tuple #[]) (by simp [results, Try.results157, go_sem]) rfl ⟨rfl, L3, H3.out, HL3.out, HSA.out L2 L3 HD2.out HD3.out⟩
                · have HD3 := Aside0.mk (Srt.Pre.done (HSR.out L2 HD2.out) (by omega))
                  by_cases hg4 : d < t
                  · have e5 : decide ((d : Int) < (t : Int)) = true := by simpa using hg4
                    have e6 : decide ((t : Int) < (b : Int)) = false := by simp; omega
                    go_wp2_with fail
                  · have e5 : decide ((d : Int) < (t : Int)) = false := by simpa using hg4
                    go_wp2_with fail
                    exact bodyPost_end (v := .tuple #[]) (by simp [results, Try.results157, go_sem]) rfl ⟨rfl, L2, H2.out, HL2.out, HSA.out L2 L2 HD2.out HD3.out⟩
  · have HLO := Aside0.mk (show Srt.lo0 a m b = a by have := HDD.out; unfold Srt.lo0; rw [if_neg (by omega)])
    have HHI := Aside0.mk (show Srt.hi0 a m b = m by have := HDD.out; unfold Srt.hi0; rw [if_neg (by omega)])
    have hlo : True := by trivial
    go_enter Try.func157, Try.ntmps157
    go_wp2
    go_loopg [20, 21] (Srt.hi0 a m b - Srt.lo0 a m b) (fun gk v20 v21 wr => ∃ (i j : Nat), gk = j - i ∧ v20 = .int .i64 i ∧ v21 = .int .i64 j ∧ Aside0 (Srt.Half (Srt.test (ltC cm) L a m b) (Srt.lo0 a m b) (Srt.hi0 a m b) i j) ∧ Aside0 (RowIs B ok w g n cap L wr))
    case atStart =>
      refine ⟨Srt.lo0 a m b, Srt.hi0 a m b, rfl, ?_, ?_, HHF, HR⟩
      · rw [HLO.out] <;> (congr 1; omega)
      · rw [HHI.out]
    case round =>
      clear HR
      obtain ⟨i, j, hg, rfl, rfl, HI, HR⟩ := hrel
      have hi := HI.out.1
      have hij := HI.out.2.1
      have hj := HI.out.2.2.1
      have h3 := HN.out
      have h4 := HRG.out
      have h5 := HDD.out
      rw [← h5] at h4
      have hiB : a ≤ i ∧ d + m ≤ i + b ∧ j ≤ m ∧ j ≤ d := by omega
      clear hi hj h4 h5
      by_cases hlt : i < j
      · have hmid := mid_eq (i := i) (j := j) (by omega) (by omega)
        obtain ⟨h, hh⟩ : ∃ h, h = (i + j) / 2 := ⟨_, rfl⟩
        have hh1 : i ≤ h ∧ h < j := by omega
        rw [← hh] at hmid
        clear hh
        obtain ⟨q, hq⟩ : ∃ q : Nat, q = d + m - 1 - h := ⟨_, rfl⟩
        have hq1 : (d : Int) + (m : Int) - 1 - (h : Int) = (q : Int) := by omega
        have hq2 : q < n := by omega
        have HQ := Aside0.mk hq
        clear hq
        obtain ⟨y, hy, p0, p1, p2, p3, p4, p5, p6, p7, q0, q1, q2, q3, q4, q5, q6, q7⟩ := row_at HR.out.1 (show h < n by omega)
        obtain ⟨x, hx, r0, r1, r2, r3, r4, r5, r6, r7, s0, s1, s2, s3, s4, s5, s6, s7⟩ := row_at HR.out.1 (show q < n by omega)
        have i0 : (0 : Int) ≤ (h : Int) := by omega
        have i1 : (h : Int) < (n : Int) := by omega
        have i2 : (0 : Int) ≤ (q : Int) := by omega
        have i3 : (q : Int) < (n : Int) := by omega
        have i6 : IntKind.i64.wrap (q : Int) = (q : Int) := by simp only [IntKind.wrap, IntKind.bits, IntKind.signed, Bool.true_and, decide_eq_true_eq, ge_iff_le]; split <;> omega
        have htest : Srt.test (ltC cm) L a m b h = !(ltC cm x y) := by
          unfold Srt.test
          rw [← HDD.out, ← HQ.out, Srt.ltAt_of hx.out hy.out]
        have HT := Aside0.mk htest
        clear htest
        go_wp2_with fail
        go_still_tail 11, (by kernel_rfl)
        go_wp2_with fail
        refine (HC.out _ (gr_drew HR.out.2) x y).mono ?_; rintro _ w2 ⟨rfl, hb2⟩
        have HR2 := Aside0.mk (RowIs.below (RowIs.drew HR.out) hb2)
        clear hb2 p0 p1 p2 p3 p4 p5 p6 p7 q0 q1 q2 q3 q4 q5 q6 q7 r0 r1 r2 r3 r4 r5 r6 r7 s0 s1 s2 s3 s4 s5 s6 s7
        by_cases hc : cm x y < 0
        · have e4 : decide (cm x y < 0) = true := by simpa using hc
          have HH := Aside0.mk (HI.out.no HF.out hh1.1 hh1.2 (HT.out.trans (by rw [show ltC cm x y = _ from e4]; rfl)))
          go_wp2_with fail
          go_roundg (h - i)
          case measure => omega
          exact ⟨i, h, rfl, rfl, rfl, HH, HR2⟩
        · have e4 : decide (cm x y < 0) = false := by simpa using hc
          have HH := Aside0.mk (HI.out.yes HF.out hh1.1 hh1.2 (HT.out.trans (by rw [show ltC cm x y = _ from e4]; rfl)))
          go_wp2_with fail
          go_roundg (j - (h + 1))
          case measure => omega
          exact ⟨h + 1, j, rfl, by go_num, rfl, HH, HR2⟩
      · obtain rfl : i = j := by omega
        have hS := HST.out i HI.out
        obtain ⟨t, ht⟩ : ∃ t : Nat, t = d + m - i := ⟨_, rfl⟩
        have ht1 : (d : Int) + (m : Int) - (i : Int) = (t : Int) := by omega
        have hle := hS.le1
        rw [← HDD.out, ← ht] at hle
        have hS1 : ∃ L1, L1 = Srt.rotd L i m t := ⟨_, rfl⟩
        obtain ⟨L1, hL1⟩ := hS1
        have hL1n : L1.length = n := by rw [hL1, Srt.rotd_len L hle.2.1 hle.2.2.1 (by rw [HN.out]; omega)]; exact HN.out
        have HSL := Aside0.mk (show Srt.Pre (ltC cm) L1 a i d by have := hS.left; rw [← HDD.out, ← ht, ← hL1] at this; exact this)
        have HSR := Aside0.mk (show ∀ L2, Srt.Done (ltC cm) a d L1 L2 → Srt.Pre (ltC cm) L2 d t b by have := hS.right; rw [← HDD.out, ← ht, ← hL1] at this; exact this)
        have HSA := Aside0.mk (show ∀ L2 L3, Srt.Done (ltC cm) a d L1 L2 → Srt.Done (ltC cm) d b L2 L3 → Srt.Done (ltC cm) a b L L3 by have := hS.all; rw [← HDD.out, ← ht, ← hL1] at this; exact this)
        have HL1 := Aside0.mk hL1
        have HLN := Aside0.mk hL1n
        clear hS ht hL1 hL1n hij hg
        by_cases hg1 : i < m ∧ m < t
        · have e1 : decide ((i : Int) < (m : Int)) = true := by simpa using hg1.1
          have e2 : decide ((m : Int) < (t : Int)) = true := by simpa using hg1.2
          go_wp2_with fail
          refine (rotate_c g n cap L i m t _ B ok w _ HR.out HN.out hg1.1 hg1.2 (by omega) hl).mono ?_
          rintro e w3 ⟨rfl, h6⟩
          have H1 := Aside0.mk (show RowIs B ok w g n cap L1 w3 by rw [HL1.out]; exact h6)
          clear h6
          by_cases hg2 : a < i ∧ i < d
          · have e3 : decide ((a : Int) < (i : Int)) = true := by simpa using hg2.1
            have e4 : decide ((i : Int) < (d : Int)) = true := by simpa using hg2.2
            go_wp2_with fail
            refine (HIH.out a i d (by omega) L1 _ H1.out HLN.out HSL.out hg2.1 hg2.2 (by omega)).mono ?_
            rintro e w4 ⟨rfl, L2, h6, h7, h8⟩
            have H2 := Aside0.mk h6
            have HD2 := Aside0.mk h8
            have HL2 := Aside0.mk h7
            clear h6 h7 h8
            by_cases hg3 : d < t ∧ t < b
            · have e5 : decide ((d : Int) < (t : Int)) = true := by simpa using hg3.1
              have e6 : decide ((t : Int) < (b : Int)) = true := by simpa using hg3.2
              go_wp2_with fail
              refine (HIH.out d t b (by omega) L2 _ H2.out HL2.out (HSR.out L2 HD2.out) hg3.1 hg3.2 hb).mono ?_
              rintro e w5 ⟨rfl, L3, h6, h7, h8⟩
              have H3 := Aside0.mk h6
              have HD3 := Aside0.mk h8
              have HL3 := Aside0.mk h7
              clear h6 h7 h8
              go_wp2_with fail
              exact bodyPost_end (v := .tuple #[]) (by simp [results, Try.results157, go_sem]) rfl ⟨rfl, L3, H3.out, HL3.out, HSA.out L2 L3 HD2.out HD3.out⟩
            · have HD3 := Aside0.mk (Srt.Pre.done (HSR.out L2 HD2.out) (by omega))
              by_cases hg4 : d < t
              · have e5 : decide ((d : Int) < (t : Int)) = true := by simpa using hg4
                have e6 : decide ((t : Int) < (b : Int)) = false := by simp; omega
                go_wp2_with fail
              · have e5 : decide ((d : Int) < (t : Int)) = false := by simpa using hg4
                go_wp2_with fail
                exact bodyPost_end (v := .tuple #[]) (by simp [results, Try.results157, go_sem]) rfl ⟨rfl, L2, H2.out, HL2.out, HSA.out L2 L2 HD2.out HD3.out⟩
          · have HD2 := Aside0.mk (Srt.Pre.done HSL.out (by omega))
            obtain ⟨L2, rfl⟩ : ∃ L2, L2 = L1 := ⟨_, rfl⟩
            have H2 := H1
            have HL2 := HLN
            by_cases hg5 : a < i
            · have e3 : decide ((a : Int) < (i : Int)) = true := by simpa using hg5
              have e4 : decide ((i : Int) < (d : Int)) = false := by simp; omega
              by_cases hg3 : d < t ∧ t < b
              · have e5 : decide ((d : Int) < (t : Int)) = true := by simpa using hg3.1
                have e6 : decide ((t : Int) < (b : Int)) = true := by simpa using hg3.2
                go_wp2_with fail
              · have HD3 := Aside0.mk (Srt.Pre.done (HSR.out L2 HD2.out) (by omega))
                by_cases hg4 : d < t
                · have e5 : decide ((d : Int) < (t : Int)) = true := by simpa using hg4
                  have e6 : decide ((t : Int) < (b : Int)) = false := by simp; omega
                  go_wp2_with fail
                · have e5 : decide ((d : Int) < (t : Int)) = false := by simpa using hg4
                  go_wp2_with fail
            · have e3 : decide ((a : Int) < (i : Int)) = false := by simpa using hg5
              by_cases hg3 : d < t ∧ t < b
              · have e5 : decide ((d : Int) < (t : Int)) = true := by simpa using hg3.1
                have e6 : decide ((t : Int) < (b : Int)) = true := by simpa using hg3.2
                go_wp2_with fail
                refine (HIH.out d t b (by omega) L2 _ H2.out HL2.out (HSR.out L2 HD2.out) hg3.1 hg3.2 hb).mono ?_
                rintro e w5 ⟨rfl, L3, h6, h7, h8⟩
                have H3 := Aside0.mk h6
                have HD3 := Aside0.mk h8
                have HL3 := Aside0.mk h7
                clear h6 h7 h8
                go_wp2_with fail
                exact bodyPost_end (v := .tuple #[]) (by simp [results, Try.results157, go_sem]) rfl ⟨rfl, L3, H3.out, HL3.out, HSA.out L2 L3 HD2.out HD3.out⟩
              · have HD3 := Aside0.mk (Srt.Pre.done (HSR.out L2 HD2.out) (by omega))
                by_cases hg4 : d < t
                · have e5 : decide ((d : Int) < (t : Int)) = true := by simpa using hg4
                  have e6 : decide ((t : Int) < (b : Int)) = false := by simp; omega
                  go_wp2_with fail
                  exact bodyPost_end (v := .tuple #[]) (by simp [results, Try.results157, go_sem]) rfl ⟨rfl, L2, H2.out, HL2.out, HSA.out L2 L2 HD2.out HD3.out⟩
                · have e5 : decide ((d : Int) < (t : Int)) = false := by simpa using hg4
                  go_wp2_with fail
                  exact bodyPost_end (v := .tuple #[]) (by simp [results, Try.results157, go_sem]) rfl ⟨rfl, L2, H2.out, HL2.out, HSA.out L2 L2 HD2.out HD3.out⟩
        · have H1 := Aside0.mk (show RowIs B ok w g n cap L1 wr by
            rw [HL1.out]
            rcases (show i = m ∨ m = t by omega) with e | e
            · rw [← e, rotd_l L i t (by omega)]; exact HR.out
            · rw [← e, rotd_r L i m (by omega)]; exact HR.out)
          by_cases hg6 : i < m
          · have e1 : decide ((i : Int) < (m : Int)) = true := by simpa using hg6
            have e2 : decide ((m : Int) < (t : Int)) = false := by simp; omega
            by_cases hg2 : a < i ∧ i < d
            · have e3 : decide ((a : Int) < (i : Int)) = true := by simpa using hg2.1
              have e4 : decide ((i : Int) < (d : Int)) = true := by simpa using hg2.2
              go_wp2_with fail
            · have HD2 := Aside0.mk (Srt.Pre.done HSL.out (by omega))
              obtain ⟨L2, rfl⟩ : ∃ L2, L2 = L1 := ⟨_, rfl⟩
              have H2 := H1
              have HL2 := HLN
              by_cases hg5 : a < i
              · have e3 : decide ((a : Int) < (i : Int)) = true := by simpa using hg5
                have e4 : decide ((i : Int) < (d : Int)) = false := by simp; omega
                by_cases hg3 : d < t ∧ t < b
                · have e5 : decide ((d : Int) < (t : Int)) = true := by simpa using hg3.1
                  have e6 : decide ((t : Int) < (b : Int)) = true := by simpa using hg3.2
                  go_wp2_with fail
                · have HD3 := Aside0.mk (Srt.Pre.done (HSR.out L2 HD2.out) (by omega))
                  by_cases hg4 : d < t
                  · have e5 : decide ((d : Int) < (t : Int)) = true := by simpa using hg4
                    have e6 : decide ((t : Int) < (b : Int)) = false := by simp; omega
                    go_wp2_with fail
                  · have e5 : decide ((d : Int) < (t : Int)) = false := by simpa using hg4
                    go_wp2_with fail
              · have e3 : decide ((a : Int) < (i : Int)) = false := by simpa using hg5
                by_cases hg3 : d < t ∧ t < b
                · have e5 : decide ((d : Int) < (t : Int)) = true := by simpa using hg3.1
                  have e6 : decide ((t : Int) < (b : Int)) = true := by simpa using hg3.2
                  go_wp2_with fail
                · have HD3 := Aside0.mk (Srt.Pre.done (HSR.out L2 HD2.out) (by omega))
                  by_cases hg4 : d < t
                  · have e5 : decide ((d : Int) < (t : Int)) = true := by simpa using hg4
                    have e6 : decide ((t : Int) < (b : Int)) = false := by simp; omega
                    go_wp2_with fail
                  · have e5 : decide ((d : Int) < (t : Int)) = false := by simpa using hg4
                    go_wp2_with fail
          · have e1 : decide ((i : Int) < (m : Int)) = false := by simpa using hg6
            by_cases hg2 : a < i ∧ i < d
            · have e3 : decide ((a : Int) < (i : Int)) = true := by simpa using hg2.1
              have e4 : decide ((i : Int) < (d : Int)) = true := by simpa using hg2.2
              go_wp2_with fail
              refine (HIH.out a i d (by omega) L1 _ H1.out HLN.out HSL.out hg2.1 hg2.2 (by omega)).mono ?_
              rintro e w4 ⟨rfl, L2, h6, h7, h8⟩
              have H2 := Aside0.mk h6
              have HD2 := Aside0.mk h8
              have HL2 := Aside0.mk h7
              clear h6 h7 h8
              by_cases hg3 : d < t ∧ t < b
              · have e5 : decide ((d : Int) < (t : Int)) = true := by simpa using hg3.1
                have e6 : decide ((t : Int) < (b : Int)) = true := by simpa using hg3.2
                go_wp2_with fail
                refine (HIH.out d t b (by omega) L2 _ H2.out HL2.out (HSR.out L2 HD2.out) hg3.1 hg3.2 hb).mono ?_
                rintro e w5 ⟨rfl, L3, h6, h7, h8⟩
                have H3 := Aside0.mk h6
                have HD3 := Aside0.mk h8
                have HL3 := Aside0.mk h7
                clear h6 h7 h8
                go_wp2_with fail
                exact bodyPost_end (v := .tuple #[]) (by simp [results, Try.results157, go_sem]) rfl ⟨rfl, L3, H3.out, HL3.out, HSA.out L2 L3 HD2.out HD3.out⟩
              · have HD3 := Aside0.mk (Srt.Pre.done (HSR.out L2 HD2.out) (by omega))
                by_cases hg4 : d < t
                · have e5 : decide ((d : Int) < (t : Int)) = true := by simpa using hg4
                  have e6 : decide ((t : Int) < (b : Int)) = false := by simp; omega
                  go_wp2_with fail
                · have e5 : decide ((d : Int) < (t : Int)) = false := by simpa using hg4
                  go_wp2_with fail
                  exact bodyPost_end (v := .tuple #[]) (by simp [results, Try.results157, go_sem]) rfl ⟨rfl, L2, H2.out, HL2.out, HSA.out L2 L2 HD2.out HD3.out⟩
            · have HD2 := Aside0.mk (Srt.Pre.done HSL.out (by omega))
              obtain ⟨L2, rfl⟩ : ∃ L2, L2 = L1 := ⟨_, rfl⟩
              have H2 := H1
              have HL2 := HLN
              by_cases hg5 : a < i
              · have e3 : decide ((a : Int) < (i : Int)) = true := by simpa using hg5
                have e4 : decide ((i : Int) < (d : Int)) = false := by simp; omega
                by_cases hg3 : d < t ∧ t < b
                · have e5 : decide ((d : Int) < (t : Int)) = true := by simpa using hg3.1
                  have e6 : decide ((t : Int) < (b : Int)) = true := by simpa using hg3.2
                  go_wp2_with fail
                · have HD3 := Aside0.mk (Srt.Pre.done (HSR.out L2 HD2.out) (by omega))
                  by_cases hg4 : d < t
                  · have e5 : decide ((d : Int) < (t : Int)) = true := by simpa using hg4
                    have e6 : decide ((t : Int) < (b : Int)) = false := by simp; omega
                    go_wp2_with fail
                  · have e5 : decide ((d : Int) < (t : Int)) = false := by simpa using hg4
                    go_wp2_with fail
                    exact bodyPost_end (v := .tuple #[]) (by simp [results, Try.results157, go_sem]) rfl ⟨rfl, L2, H2.out, HL2.out, HSA.out L2 L2 HD2.out HD3.out⟩
              · have e3 : decide ((a : Int) < (i : Int)) = false := by simpa using hg5
                by_cases hg3 : d < t ∧ t < b
                · have e5 : decide ((d : Int) < (t : Int)) = true := by simpa using hg3.1
                  have e6 : decide ((t : Int) < (b : Int)) = true := by simpa using hg3.2
                  go_wp2_with fail
                  refine (HIH.out d t b (by omega) L2 _ H2.out HL2.out (HSR.out L2 HD2.out) hg3.1 hg3.2 hb).mono ?_
                  rintro e w5 ⟨rfl, L3, h6, h7, h8⟩
                  have H3 := Aside0.mk h6
                  have HD3 := Aside0.mk h8
                  have HL3 := Aside0.mk h7
                  clear h6 h7 h8
                  go_wp2_with fail
                  exact bodyPost_end (v := .tuple #[]) (by simp [results, Try.results157, go_sem]) rfl ⟨rfl, L3, H3.out, HL3.out, HSA.out L2 L3 HD2.out HD3.out⟩
                · have HD3 := Aside0.mk (Srt.Pre.done (HSR.out L2 HD2.out) (by omega))
                  by_cases hg4 : d < t
                  · have e5 : decide ((d : Int) < (t : Int)) = true := by simpa using hg4
                    have e6 : decide ((t : Int) < (b : Int)) = false := by simp; omega
                    go_wp2_with fail
                  · have e5 : decide ((d : Int) < (t : Int)) = false := by simpa using hg4
                    go_wp2_with fail
                    exact bodyPost_end (v := .tuple #[]) (by simp [results, Try.results157, go_sem]) rfl ⟨rfl, L2, H2.out, HL2.out, HSA.out L2 L2 HD2.out HD3.out⟩
end Go.Proofs.Ytgdhopcbiekhhaa
