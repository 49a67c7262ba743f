/- The library's exchange of two runs of books; The library's rotation of a run of books; The library's insertion sort of a run of books. -/
import Derived.Test.YtgdhopcbiekhhaaMarkB
import Derived.Test.YtgdhopcbiekhhaaOrd
import Derived.StillTailTactics
import Derived.Still
import Derived.Deep.QuietTactic
import Derived.BigQuiet
import Derived.BigRegion
import Derived.RegionTactic
import Derived.ChangeAlike
namespace Go.Proofs.Ytgdhopcbiekhhaa
open Go.RowKit Go.Proofs.YtgdhopcbiekhhaaW.PrintWords Go.Proofs.YtgdhopcbiekhhaaW.PrintMore
set_option linter.unusedVariables false
set_option linter.unusedSimpArgs false
set_option maxRecDepth 100000

/-- A row of books is L behind the call; no other block has changed. -/
def RowIs (B : Nat) (ok : Nat → Prop) (w : World) (g n cap : Nat) (L : List Bk) (w' : World) : Prop := kBk.R 34 w' B ok (.slice (some ⟨g, 0, none⟩) n cap) L ∧ w.grownBy w' (some g)
def Writes (B : Nat) (ok : Nat → Prop) (w : World) (g n cap : Nat) (L : List Bk) (en : Ending) (w' : World) : Prop := en = .returned (.tuple #[]) ∧ RowIs B ok w g n cap L w'
theorem row_put8 {W : World} {B : Nat} {ok : Nat → Prop} {g n cap : Nat} {xs : List Bk} {k : Nat} (b : Bk) (h : kBk.R 34 W B ok (.slice (some ⟨g, 0, none⟩) n cap) xs) (hk : k < n) :
    kBk.R 34 (W.setCells g (k * 8) (Bk.cells b)) B ok (.slice (some ⟨g, 0, none⟩) n cap) (xs.set k b) ∧ W.grownBy (W.setCells g (k * 8) (Bk.cells b)) (some g) := by
  obtain ⟨c, hcl, _, hcc, _⟩ := Kd.R_elem h zBk (k : Int) (by omega) (by omega)
  have hcl8 : c.length = 8 := hcl
  have := Kd.R_seg (okp := fun _ => False) h (k : Int) (by omega) (by omega) hcl (seg := Bk.cells b) (j := 0) (by simpa using hcc) (by show 0 + 8 ≤ 8; omega) (x' := b) (by
    show _ = Bk.cells b
    rw [List.drop_of_length_le (by show c.length ≤ 0 + 8; omega)]
    simp) (fun _ h => h.elim)
  rw [Int.toNat_natCast] at this
  exact this
/-- The cells of an element of a row of one's own. -/
theorem row_at {W : World} {B : Nat} {ok : Nat → Prop} {g n cap : Nat} {xs : List Bk} {k : Nat} (h : kBk.R 34 W B ok (.slice (some ⟨g, 0, none⟩) n cap) xs) (hk : k < n) :
    ∃ b, Aside0 (xs[k]? = some b) ∧ W.cell? ⟨g, k * 8, none⟩ = some (.int .i16 b.c) ∧ W.cell? ⟨g, k * 8 + 1, none⟩ = some (.int .u8 b.m0) ∧ W.cell? ⟨g, k * 8 + 2, none⟩ = some (.int .u8 b.m1) ∧ W.cell? ⟨g, k * 8 + 3, none⟩ = some (.int .u8 b.m2) ∧ W.cell? ⟨g, k * 8 + 4, none⟩ = some (.int .i16 b.v) ∧ W.cell? ⟨g, k * 8 + 5, none⟩ = some (.int .i16 b.wd) ∧ W.cell? ⟨g, k * 8 + 6, none⟩ = some (.int .i16 b.h) ∧ W.cell? ⟨g, k * 8 + 7, none⟩ = some (.int .i16 b.wt) ∧
      W.frozen? ⟨g, k * 8, none⟩ = false ∧ W.frozen? ⟨g, k * 8 + 1, none⟩ = false ∧ W.frozen? ⟨g, k * 8 + 2, none⟩ = false ∧ W.frozen? ⟨g, k * 8 + 3, none⟩ = false ∧ W.frozen? ⟨g, k * 8 + 4, none⟩ = false ∧ W.frozen? ⟨g, k * 8 + 5, none⟩ = false ∧ W.frozen? ⟨g, k * 8 + 6, none⟩ = false ∧ W.frozen? ⟨g, k * 8 + 7, none⟩ = false := by
  have hn := (Kd.R_reads' h).1
  obtain ⟨b, hx⟩ : ∃ b, xs[k]? = some b := ⟨_, List.getElem?_eq_getElem (by omega)⟩
  obtain ⟨c, hcl, hM, hcc, hf⟩ := Kd.R_elem h zBk (k : Int) (by omega) (by omega)
  rw [Int.toNat_natCast] at hM hcc hf
  have hg : xs.getD k zBk = b := by simp [List.getD_eq_getElem?_getD, hx]
  rw [hg] at hM
  have hM' : c = Bk.cells b := hM
  subst hM'
  exact ⟨b, ⟨hx⟩, hcc 0 _ rfl, hcc 1 _ rfl, hcc 2 _ rfl, hcc 3 _ rfl, hcc 4 _ rfl, hcc 5 _ rfl, hcc 6 _ rfl, hcc 7 _ rfl, hf 0, hf 1, hf 2, hf 3, hf 4, hf 5, hf 6, hf 7⟩
theorem gr_drew {w w' : World} {row : Option Nat} (h : w.grownBy w' row) : w.grownBy w'.drew row := ⟨h.os, h.tape, h.output, h.size, h.block⟩
/-- Two elements of a row change places. -/
theorem exch {W W' : World} {B : Nat} {ok : Nat → Prop} {w : World} {g n cap : Nat} {C : List Bk} {i j : Nat} {x y : Bk} (h : RowIs B ok w g n cap C W) (hi : i < n) (hj : j < n) (hx : C[i]? = some x) (hy : C[j]? = some y) (e : ((W.setCells g (i * 8) (Bk.cells y)).setCells g (j * 8) (Bk.cells x)).drew = W') :
    RowIs B ok w g n cap (Srt.swp C i j) W' := by
  rw [Srt.swp_at hx hy, ← e]
  clear e
  have h1 := h.1
  have h2 := h.2
  obtain ⟨h3, h4⟩ := row_put8 y h1 hi
  obtain ⟨h5, h6⟩ := row_put8 x h3 hj
  have h7 := (h2.trans h4).trans h6
  exact And.intro (Kd.R_drew h5) (gr_drew h7)
set_option maxHeartbeats 8000000 in
theorem swapRange_c (g cap : Nat) (L : List Bk) (a b n : Nat) (f : Value) (B : Nat) (ok : Nat → Prop) (w : World) (hR : kBk.R 34 w B ok (.slice (some ⟨g, 0, none⟩) L.length cap) L) (hab : a + n ≤ b) (hb : b + n ≤ L.length) (hl : L.length ≤ 1000000000) :
    Calls Try.prog 163 #[.slice (some ⟨g, 0, none⟩) L.length cap, .int .i64 a, .int .i64 b, .int .i64 n, f] w (Writes B ok w g L.length cap (Srt.swapF L a b n)) := by
  have HR := Aside0.mk hR
  clear hR
  go_enter Try.func163, Try.ntmps163
  go_wp2
  go_loopg [10] n (fun gk v wr => ∃ (k : Nat) (C : List Bk), k + gk = n ∧ v = .int .i64 k ∧ Aside0 (C.length = L.length ∧ Srt.swapF C (a + k) (b + k) (n - k) = Srt.swapF L a b n) ∧ Aside0 (RowIs B ok w g L.length cap C wr))
  case atStart => exact ⟨0, L, by omega, rfl, ⟨rfl, by simp⟩, ⟨HR.out, World.grownBy.refl _ _⟩⟩
  case round =>
    clear HR
    obtain ⟨k, C, hk, rfl, HC, HR⟩ := hrel
    have HK := Aside0.mk hk
    by_cases hlt : k < n
    · obtain ⟨x, hx, p0, p1, p2, p3, p4, p5, p6, p7, q0, q1, q2, q3, q4, q5, q6, q7⟩ := row_at HR.out.1 (show a + k < L.length by omega)
      obtain ⟨y, hy, r0, r1, r2, r3, r4, r5, r6, r7, s0, s1, s2, s3, s4, s5, s6, s7⟩ := row_at HR.out.1 (show b + k < L.length by omega)
      have i0 : (0 : Int) ≤ (a : Int) + (k : Int) := by omega
      have i1 : (a : Int) + (k : Int) < (L.length : Int) := by omega
      have i2 : (0 : Int) ≤ (b : Int) + (k : Int) := by omega
      have i3 : (b : Int) + (k : Int) < (L.length : Int) := by omega
      have i4 : ((a : Int) + (k : Int)).toNat = a + k := by omega
      have i5 : ((b : Int) + (k : Int)).toNat = b + k := by omega
      clear hk
      go_wp2_with fail
      go_region
      go_wp2
      have hk := HK.out
      go_roundg (gk - 1)
      case measure => omega
      refine ⟨k + 1, Srt.swp C (a + k) (b + k), by omega, rfl, ⟨?_, ?_⟩, ⟨exch HR.out (by omega) (by omega) hx.out hy.out (by simp only [Bk.cells, World.setCells, Nat.add_assoc, Nat.reduceAdd])⟩⟩
      · rw [Srt.swp_len]; exact HC.out.1
      · have e : n - k = (n - (k + 1)) + 1 := by omega
        have := HC.out.2
        rw [e, Srt.swapF] at this
        simpa [Nat.add_assoc] using this
    · have hk := HK.out
      have hkn : k = n := by omega
      subst hkn
      clear hk
      go_wp2_with fail
      have h1 := HC.out.2
      rw [Nat.sub_self] at h1
      exact bodyPost_end (v := .tuple #[]) (by simp [results, Try.results163, go_sem]) rfl ⟨rfl, by have := HR.out; rw [← h1]; exact this⟩
theorem swapRange_i (g n cap : Nat) (L C : List Bk) (a b k : Nat) (x y z : Int) (f : Value) (B : Nat) (ok : Nat → Prop) (w W : World) (h : RowIs B ok w g n cap C W) (hn : C.length = n) (hx : x = a) (hy : y = b) (hz : z = k) (hab : a + k ≤ b) (hb : b + k ≤ n) (hl : n ≤ 1000000000) :
    Calls Try.prog 163 #[.slice (some ⟨g, 0, none⟩) n cap, .int .i64 x, .int .i64 y, .int .i64 z, f] W (Writes B ok w g n cap (Srt.swapF C a b k)) := by
  subst hx hy hz hn
  refine (swapRange_c g cap C a b k f B ok W h.1 hab hb hl).mono ?_
  rintro e w' ⟨rfl, h1, h2⟩
  exact ⟨rfl, h1, h.2.trans h2⟩
set_option maxHeartbeats 8000000 in
theorem rotate_c (g n cap : Nat) (L : List Bk) (a m b : Nat) (f : Value) (B : Nat) (ok : Nat → Prop) (w W : World) (hR : RowIs B ok w g n cap L W) (hn : L.length = n) (h1 : a < m) (h2 : m < b) (hb : b ≤ n) (hl : n ≤ 1000000000) :
    Calls Try.prog 161 #[.slice (some ⟨g, 0, none⟩) n cap, .int .i64 a, .int .i64 m, .int .i64 b, f] W (Writes B ok w g n cap (Srt.rotd L a m b)) := by
  have HR := Aside0.mk hR
  clear hR
  go_enter Try.func161, Try.ntmps161
  go_wp2
  go_loopg [10, 11] (b - a) (fun gk v10 v11 wr => ∃ (i j : Nat) (C : List Bk), i + j = gk ∧ v10 = .int .i64 i ∧ v11 = .int .i64 j ∧ Aside0 (0 < i ∧ 0 < j ∧ i ≤ m ∧ m + j ≤ n) ∧ Aside0 (C.length = n ∧ Srt.rotd C (m - i) m (m + j) = Srt.rotd L a m b) ∧ Aside0 (RowIs B ok w g n cap C wr))
  case atStart =>
    refine ⟨m - a, b - m, L, by omega, ?_, ?_, ⟨by omega, by omega, by omega, by omega⟩, ⟨hn, ?_⟩, HR⟩
    · congr 1; omega
    · congr 1; omega
    · rw [show m - (m - a) = a by omega, show m + (b - m) = b by omega]
  case round =>
    clear HR
    obtain ⟨i, j, C, hg, rfl, rfl, HI, HC, HR⟩ := hrel
    have hi := HI.out
    by_cases hij : i = j
    · subst hij
      go_wp2_with fail
      refine (swapRange_i g n cap L C (m - i) m i _ _ _ f B ok w wr HR.out HC.out.1 (by omega) rfl rfl (by omega) (by omega) hl).mono ?_
      rintro e w1 ⟨rfl, h3⟩
      have H3 := Aside0.mk h3
      go_wp2
      have h4 := HC.out.2
      have h5 := Srt.rot_eq (C := C) (i := i) (m := m) (by omega) (by rw [HC.out.1]; omega)
      exact bodyPost_end (v := .tuple #[]) (by simp [results, Try.results161, go_sem]) rfl ⟨rfl, by have := H3.out; rw [← h4, ← h5]; exact this⟩
    · by_cases hlt : j < i
      · go_wp2_with fail
        refine (swapRange_i g n cap L C (m - i) m j _ _ _ f B ok w wr HR.out HC.out.1 (by omega) rfl rfl (by omega) (by omega) hl).mono ?_
        rintro e w1 ⟨rfl, h3⟩
        have H3 := Aside0.mk h3
        go_wp2
        go_roundg (i - j + j)
        case measure => omega
        refine ⟨i - j, j, _, rfl, ?_, rfl, ⟨by omega, by omega, by omega, by omega⟩, ⟨?_, ?_⟩, H3⟩
        · congr 1; omega
        · rw [Srt.swapF_len]; exact HC.out.1
        · rw [← HC.out.2, ← Srt.rot_gt hlt (by omega) (by rw [HC.out.1]; omega), show m - (i - j) = m - i + j by omega]
      · go_wp2_with fail
        refine (swapRange_i g n cap L C (m - i) (m + j - i) i _ _ _ f B ok w wr HR.out HC.out.1 (by omega) (by omega) rfl (by omega) (by omega) hl).mono ?_
        rintro e w1 ⟨rfl, h3⟩
        have H3 := Aside0.mk h3
        go_wp2
        go_roundg (i + (j - i))
        case measure => omega
        refine ⟨i, j - i, _, rfl, rfl, ?_, ⟨by omega, by omega, by omega, by omega⟩, ⟨?_, ?_⟩, H3⟩
        · congr 1; omega
        · rw [Srt.swapF_len]; exact HC.out.1
        · rw [← HC.out.2]; exact Srt.rot_lt (C := C) (by omega) (by omega) (by rw [HC.out.1]; omega)
/-- The compare function answers by cm in every world that has grown from w with the row of block g changed. -/
structure CmpOk (f : FuncId) (cf : Array Value) (cm : Bk → Bk → Int) (g : Nat) (w : World) : Prop where
  fn : Fun Try.prog f
  call : ∀ W, w.grownBy W (some g) → ∀ x y : Bk, Calls Try.prog f (#[x.val, y.val] ++ cf) W (Ret W (.int .i64 (cm x y)))
def ltC (cm : Bk → Bk → Int) (x y : Bk) : Bool := decide (cm x y < 0)
theorem gr_below {w W W' : World} {g : Nat} (h : w.grownBy W (some g)) (hb : Below W.heap.size W W') : w.grownBy W' (some g) := h.trans ⟨hb.os, hb.tape, hb.output, hb.size, fun k hk _ => hb.block k hk⟩
theorem RowIs.below {B : Nat} {ok : Nat → Prop} {w W W' : World} {g n cap : Nat} {C : List Bk} (h : RowIs B ok w g n cap C W) (hb : Below W.heap.size W W') : RowIs B ok w g n cap C W' := ⟨Kd.R_below h.1 hb, gr_below h.2 hb⟩
theorem RowIs.drew {B : Nat} {ok : Nat → Prop} {w W : World} {g n cap : Nat} {C : List Bk} (h : RowIs B ok w g n cap C W) : RowIs B ok w g n cap C W.drew := ⟨Kd.R_drew h.1, gr_drew h.2⟩
theorem RowIs.drewN {B : Nat} {ok : Nat → Prop} {w W : World} {g n cap : Nat} {C : List Bk} (h : RowIs B ok w g n cap C W) (k : Nat) : RowIs B ok w g n cap C (W.drewN k) := ⟨Kd.R_drewN h.1 k, ⟨h.2.os, h.2.tape, h.2.output, h.2.size, h.2.block⟩⟩
theorem row_of {W : World} {B : Nat} {ok : Nat → Prop} {g n cap : Nat} {xs : List Bk} {k : Nat} {b : Bk} (h : kBk.R 34 W B ok (.slice (some ⟨g, 0, none⟩) n cap) xs) (hk : k < n) (hb : xs[k]? = some b) :
    W.cell? ⟨g, k * 8, none⟩ = some (.int .i16 b.c) ∧ W.cell? ⟨g, k * 8 + 1, none⟩ = some (.int .u8 b.m0) ∧ W.cell? ⟨g, k * 8 + 2, none⟩ = some (.int .u8 b.m1) ∧ W.cell? ⟨g, k * 8 + 3, none⟩ = some (.int .u8 b.m2) ∧ W.cell? ⟨g, k * 8 + 4, none⟩ = some (.int .i16 b.v) ∧ W.cell? ⟨g, k * 8 + 5, none⟩ = some (.int .i16 b.wd) ∧ W.cell? ⟨g, k * 8 + 6, none⟩ = some (.int .i16 b.h) ∧ W.cell? ⟨g, k * 8 + 7, none⟩ = some (.int .i16 b.wt) ∧
      W.frozen? ⟨g, k * 8, none⟩ = false ∧ W.frozen? ⟨g, k * 8 + 1, none⟩ = false ∧ W.frozen? ⟨g, k * 8 + 2, none⟩ = false ∧ W.frozen? ⟨g, k * 8 + 3, none⟩ = false ∧ W.frozen? ⟨g, k * 8 + 4, none⟩ = false ∧ W.frozen? ⟨g, k * 8 + 5, none⟩ = false ∧ W.frozen? ⟨g, k * 8 + 6, none⟩ = false ∧ W.frozen? ⟨g, k * 8 + 7, none⟩ = false := by
  obtain ⟨b', hb', r⟩ := row_at h hk
  obtain rfl : b' = b := by have := hb'.out; rw [hb] at this; exact (Option.some.inj this).symm
  exact r
theorem insF_stop {lt : Bk → Bk → Bool} {C : List Bk} {a j : Nat} (h : ¬ a < j) : Srt.insF lt C a j = C := by
  cases j with
  | zero => rfl
  | succ j =>
    unfold Srt.insF
    split
    · rw [if_neg (fun h' => h h'.1)]
    · rfl
theorem insF_go {lt : Bk → Bk → Bool} {C : List Bk} {a j : Nat} {x y : Bk} (h : a < j) (hx : C[j]? = some x) (hy : C[j - 1]? = some y) (hl : lt x y = true) : Srt.insF lt C a j = Srt.insF lt (Srt.swp C j (j - 1)) a (j - 1) := by
  cases j with
  | zero => omega
  | succ j =>
    rw [Nat.add_sub_cancel] at hy ⊢
    conv => lhs; unfold Srt.insF
    rw [hx, hy]
    simp only
    rw [if_pos ⟨h, hl⟩]
theorem insF_no {lt : Bk → Bk → Bool} {C : List Bk} {a j : Nat} {x y : Bk} (hx : C[j]? = some x) (hy : C[j - 1]? = some y) (hl : lt x y = false) : Srt.insF lt C a j = C := by
  cases j with
  | zero => rfl
  | succ j =>
    rw [Nat.add_sub_cancel] at hy
    unfold Srt.insF
    rw [hx, hy]
    simp [hl]
set_option maxHeartbeats 16000000 in
theorem insertion_c (g n cap : Nat) (L : List Bk) (a b : Nat) (f : FuncId) (cf : Array Value) (cm : Bk → Bk → Int) (B : Nat) (ok : Nat → Prop) (w W : World) (hR : RowIs B ok w g n cap L W) (hn : L.length = n) (hab : a ≤ b) (hb : b ≤ n) (hl : n ≤ 1000000000) (hC : CmpOk f cf cm g w) :
    Calls Try.prog 156 #[.slice (some ⟨g, 0, none⟩) n cap, .int .i64 a, .int .i64 b, .func (.func f) #[] cf] W (Writes B ok w g n cap (Srt.insS (ltC cm) L a (a + 1) (b - (a + 1)))) := by
  have HR := Aside0.mk hR
  have hcf := hC.fn.run
  have HC := Aside0.mk hC.call
  clear hR hC
  go_enter Try.func156, Try.ntmps156
  go_wp2
  go_loopg [8] (b - (a + 1)) (fun gk v8 wr => ∃ (i : Nat) (C : List Bk), gk = b - i ∧ v8 = .int .i64 i ∧ Aside0 (a + 1 ≤ i ∧ (i ≤ b ∨ b = a)) ∧ Aside0 (C.length = n ∧ Srt.insS (ltC cm) C a i gk = Srt.insS (ltC cm) L a (a + 1) (b - (a + 1))) ∧ Aside0 (RowIs B ok w g n cap C wr))
  case atStart => exact ⟨a + 1, L, rfl, by go_num, ⟨by omega, by omega⟩, ⟨hn, rfl⟩, HR⟩
  case round =>
    clear HR
    obtain ⟨i, C, hg, rfl, HI, HL, HR⟩ := hrel
    have hi := HI.out
    by_cases hlt : i < b
    · obtain ⟨wo, rfl⟩ : ∃ wo : World, wo = wr := ⟨_, rfl⟩
      obtain ⟨gO, rfl⟩ : ∃ g : Nat, g = gk := ⟨_, rfl⟩
      go_wp2_with fail
      go_loopg [9] i (fun gk v9 wr => ∃ (j : Nat) (D : List Bk), gk = j ∧ v9 = .int .i64 j ∧ Aside0 (j ≤ i) ∧ Aside0 (D.length = n ∧ Srt.insF (ltC cm) D a j = Srt.insF (ltC cm) C a i) ∧ Aside0 (RowIs B ok w g n cap D wr))
      case atStart => exact ⟨i, C, rfl, rfl, ⟨Nat.le_refl _⟩, ⟨HL.out.1, rfl⟩, HR⟩
      case round =>
        clear HR
        obtain ⟨j, D, rfl, rfl, HJ, HD, HR⟩ := hrel
        by_cases hja : a < gk
        · have hj := HJ.out
          obtain ⟨x, hx, p0, p1, p2, p3, p4, p5, p6, p7, q0, q1, q2, q3, q4, q5, q6, q7⟩ := row_at HR.out.1 (show gk < n by omega)
          obtain ⟨y, hy, r0, r1, r2, r3, r4, r5, r6, r7, s0, s1, s2, s3, s4, s5, s6, s7⟩ := row_at HR.out.1 (show gk - 1 < n by omega)
          have e0 : decide ((a : Int) < (gk : Int)) = true := by simpa using hja
          have i0 : (0 : Int) ≤ (gk : Int) := by omega
          have i1 : (gk : Int) < (n : Int) := by omega
          have i2 : (0 : Int) ≤ (gk : Int) - 1 := by omega
          have i3 : (gk : Int) - 1 < (n : Int) := by omega
          have i5 : ((gk : Int) - 1).toNat = gk - 1 := by omega
          have i6 : IntKind.i64.wrap ((gk : Int) - 1) = (gk : Int) - 1 := by simp only [IntKind.wrap, IntKind.bits, IntKind.signed, Bool.true_and, decide_eq_true_eq, ge_iff_le]; split <;> omega
          have i7 : (1 : Int) ≤ (gk : Int) := by omega
          have i8 : (gk : Int) < (n : Int) + 1 := by omega
          go_wp2_with fail
          go_still_tail 14, (by kernel_rfl)
          go_wp2_with fail
          refine (HC.out _ (gr_drew HR.out.2) x y).mono ?_; rintro _ w2 ⟨rfl, hb2⟩
          have HR2 := Aside0.mk (RowIs.below (RowIs.drew HR.out) hb2)
          have hbl := Aside0.mk hb2
          clear hb2
          clear p0 p1 p2 p3 p4 p5 p6 p7 q0 q1 q2 q3 q4 q5 q6 q7 r0 r1 r2 r3 r4 r5 r6 r7 s0 s1 s2 s3 s4 s5 s6 s7
          by_cases hc : cm x y < 0
          · have e4 : decide (cm x y < 0) = true := by simpa using hc
            obtain ⟨p0, p1, p2, p3, p4, p5, p6, p7, q0, q1, q2, q3, q4, q5, q6, q7⟩ := row_of HR2.out.1 (show gk < n by omega) hx.out
            obtain ⟨r0, r1, r2, r3, r4, r5, r6, r7, s0, s1, s2, s3, s4, s5, s6, s7⟩ := row_of HR2.out.1 (show gk - 1 < n by omega) hy.out
            have e5 : ((gk - 1 : Nat) : Int) = (gk : Int) - 1 := by omega
            go_wp2_with fail
            go_region
            go_wp2
            go_roundg (gk - 1)
            case measure => omega
            exact ⟨gk - 1, Srt.swp D gk (gk - 1), rfl, by rw [e5], ⟨by omega⟩, ⟨by rw [Srt.swp_len]; exact HD.out.1, by rw [← HD.out.2, insF_go hja hx.out hy.out e4]⟩, ⟨exch HR2.out (by omega) (by omega) hx.out hy.out (by simp only [Bk.cells, World.setCells, Nat.add_assoc, Nat.reduceAdd])⟩⟩
          · have e4 : decide (cm x y < 0) = false := by simpa using hc
            go_wp2_with fail
            go_roundg (gO - 1)
            case measure => omega
            exact ⟨i + 1, D, by omega, by go_num, ⟨by omega, by omega⟩, ⟨HD.out.1, by rw [← HL.out.2, show gO = (gO - 1) + 1 by omega, Srt.insS, ← HD.out.2, insF_no hx.out hy.out e4]; rfl⟩, HR2⟩
        · have e0 : decide ((a : Int) < (gk : Int)) = false := by simpa using hja
          go_wp2_with fail
          go_quiet (fail)
          go_wp2
          go_roundg (gO - 1)
          case measure => omega
          exact ⟨i + 1, D, by omega, by go_num, ⟨by omega, by omega⟩, ⟨HD.out.1, by rw [← HL.out.2, show gO = (gO - 1) + 1 by omega, Srt.insS, ← HD.out.2, insF_stop hja]; rfl⟩, ⟨RowIs.drewN HR.out _⟩⟩
    · go_wp2_with fail
      have h1 := HL.out.2
      rw [show gk = 0 by omega, Srt.insS] at h1
      exact bodyPost_end (v := .tuple #[]) (by simp [results, Try.results156, go_sem]) rfl ⟨rfl, by have := HR.out; rw [← h1]; exact this⟩
end Go.Proofs.Ytgdhopcbiekhhaa
