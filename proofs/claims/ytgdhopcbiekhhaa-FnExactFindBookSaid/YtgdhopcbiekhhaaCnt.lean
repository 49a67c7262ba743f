/- CountByHundreds: the program's and the reference's. -/
import Derived.Test.YtgdhopcbiekhhaaRunsV
import Derived.Test.YtgdhopcbiekhhaaTotS
import Derived.StillTailTactics
import Derived.Still
import Derived.Deep.QuietTactic
import Derived.BigQuiet
namespace Go.Proofs.Ytgdhopcbiekhhaa
open Go.RowKit Go.Proofs.YtgdhopcbiekhhaaW.PrintWords Go.Proofs.YtgdhopcbiekhhaaW.PrintMore
set_option linter.unusedVariables false
set_option linter.unusedSimpArgs false
set_option maxRecDepth 100000

theorem vBooks_class {L : List Bk} (h : vBooks L = true) : ∀ b, b ∈ L → 0 ≤ b.c ∧ b.c ≤ 999 := by
  intro b hb
  unfold vBooks at h
  simp only [Bool.and_eq_true, decide_eq_true_eq, List.all_eq_true] at h
  have := h.2 b hb
  unfold vBook at this
  simp only [Bool.and_eq_true] at this
  exact inR_iff.1 this.1
def cntStep (xs : List Int) (b : Bk) : List Int := xs.set (b.c / 100).toNat (wrap64 (xs.getD (b.c / 100).toNat 0 + 1))
def cntL (L : List Bk) : List Int := L.foldl cntStep [0, 0, 0, 0, 0, 0, 0, 0, 0, 0]
theorem cntL_next {L : List Bk} {k : Nat} {b : Bk} (h : L[k]? = some b) : cntL (L.take (k + 1)) = cntStep (cntL (L.take k)) b := by
  unfold cntL
  rw [take_snoc h, List.foldl_append]
  rfl
theorem cntStep_len (xs : List Int) (b : Bk) : (cntStep xs b).length = xs.length := by unfold cntStep; rw [List.length_set]
theorem cntL_len (L : List Bk) : (cntL L).length = 10 := by
  unfold cntL
  have : ∀ (L : List Bk) (xs : List Int), (L.foldl cntStep xs).length = xs.length := by
    intro L
    induction L with
    | nil => intro xs; rfl
    | cons b L ih => intro xs; rw [List.foldl_cons, ih, cntStep_len]
  rw [this]; rfl
/-- Whole numbers as an array's cells. -/
def arr (xs : List Int) : Array Value := (xs.map (Value.int .i64)).toArray
theorem arr_at {xs : List Int} {i : Nat} (h : i < xs.length) : (arr xs)[i]? = some (.int .i64 (xs.getD i 0)) := by
  simp [arr, List.getD_eq_getElem?_getD, h]
theorem arr_set (xs : List Int) (i : Nat) (n : Int) : (arr xs).setIfInBounds i (.int .i64 n) = arr (xs.set i n) := by
  unfold arr
  apply Array.ext'
  simp [List.map_set]
theorem ten {xs : List Int} (h : xs.length = 10) : ∃ a b c d e f g i j k : Int, xs = [a, b, c, d, e, f, g, i, j, k] := by
  match xs, h with
  | [a, b, c, d, e, f, g, i, j, k], _ => exact ⟨a, b, c, d, e, f, g, i, j, k, rfl⟩
/-- A store of ten values into a block of ten. -/
theorem put10 {w : World} {n : Nat} {cs : Array Value} {t : TypeId} (h : w.heap[n]? = some (.cells cs t (0, 0))) (hs : cs.size = 10) (a b c d e f g i j k : Value) :
    ((((((((((w.setCell ⟨n, 0, none⟩ a).setCell ⟨n, 1, none⟩ b).setCell ⟨n, 2, none⟩ c).setCell ⟨n, 3, none⟩ d).setCell ⟨n, 4, none⟩ e).setCell ⟨n, 5, none⟩ f).setCell ⟨n, 6, none⟩ g).setCell ⟨n, 7, none⟩ i).setCell ⟨n, 8, none⟩ j).setCell ⟨n, 9, none⟩ k).heap[n]? = some (.cells #[a, b, c, d, e, f, g, i, j, k] t (0, 0)) := by
  obtain ⟨l⟩ := cs
  match l, hs with
  | [x0, x1, x2, x3, x4, x5, x6, x7, x8, x9], _ =>
    have h9 := (blk_set (blk_set (blk_set (blk_set (blk_set (blk_set (blk_set (blk_set (blk_set (blk_set h 0 a) 1 b) 2 c) 3 d) 4 e) 5 f) 6 g) 7 i) 8 j) 9 k)
    have e : (((((((((((⟨[x0, x1, x2, x3, x4, x5, x6, x7, x8, x9]⟩ : Array Value).setIfInBounds 0 a).setIfInBounds 1 b).setIfInBounds 2 c).setIfInBounds 3 d).setIfInBounds 4 e).setIfInBounds 5 f).setIfInBounds 6 g).setIfInBounds 7 i).setIfInBounds 8 j).setIfInBounds 9 k) = #[a, b, c, d, e, f, g, i, j, k] := by simp
    rw [e] at h9
    exact h9
theorem below10 {B : Nat} {w0 w : World} (h : Below B w0 w) {n : Nat} (hg : B ≤ n) (a b c d e f g i j k : Value) : Below B w0 ((((((((((w.setCell ⟨n, 0, none⟩ a).setCell ⟨n, 1, none⟩ b).setCell ⟨n, 2, none⟩ c).setCell ⟨n, 3, none⟩ d).setCell ⟨n, 4, none⟩ e).setCell ⟨n, 5, none⟩ f).setCell ⟨n, 6, none⟩ g).setCell ⟨n, 7, none⟩ i).setCell ⟨n, 8, none⟩ j).setCell ⟨n, 9, none⟩ k) :=
  (Below.setCell (Below.setCell (Below.setCell (Below.setCell (Below.setCell (Below.setCell (Below.setCell (Below.setCell (Below.setCell (Below.setCell h (p := ⟨n, 0, none⟩) hg a) (p := ⟨n, 1, none⟩) hg b) (p := ⟨n, 2, none⟩) hg c) (p := ⟨n, 3, none⟩) hg d) (p := ⟨n, 4, none⟩) hg e) (p := ⟨n, 5, none⟩) hg f) (p := ⟨n, 6, none⟩) hg g) (p := ⟨n, 7, none⟩) hg i) (p := ⟨n, 8, none⟩) hg j) (p := ⟨n, 9, none⟩) hg k)
def cntV (L : List Bk) : List Int := if vBooks L = true then cntL L else [0, 0, 0, 0, 0, 0, 0, 0, 0, 0]
set_option maxHeartbeats 4000000 in
theorem CountByHundreds_c (A : Option Addr) (c : Nat) (L : List Bk) (w : World) (hL : kBk.C w A L.length L) : Calls Try.prog 44 #[.slice A L.length c] w (Ret w (.tuple #[.agg (arr (cntV L)), .int .i64 (eV L)])) := by
  have hm := Kd.C_max hL
  have hb1 := blk_alloc (blk_new w (.cells #[.int .i64 0, .int .i64 0, .int .i64 0, .int .i64 0, .int .i64 0, .int .i64 0, .int .i64 0, .int .i64 0, .int .i64 0, .int .i64 0] 47)) (.cells #[.int .i64 0, .int .i64 0, .int .i64 0, .int .i64 0, .int .i64 0, .int .i64 0, .int .i64 0, .int .i64 0, .int .i64 0, .int .i64 0] 47)
  have hb2 := blk_new (w.alloc (.cells #[.int .i64 0, .int .i64 0, .int .i64 0, .int .i64 0, .int .i64 0, .int .i64 0, .int .i64 0, .int .i64 0, .int .i64 0, .int .i64 0] 47)) (.cells #[.int .i64 0, .int .i64 0, .int .i64 0, .int .i64 0, .int .i64 0, .int .i64 0, .int .i64 0, .int .i64 0, .int .i64 0, .int .i64 0] 47)
  rw [World.size_alloc] at hb2
  have H1 := Aside0.mk hb1
  have H2 := Aside0.mk hb2
  have HB := Aside0.mk (balloc (balloc (Below.refl w.heap.size w) (.cells #[.int .i64 0, .int .i64 0, .int .i64 0, .int .i64 0, .int .i64 0, .int .i64 0, .int .i64 0, .int .i64 0, .int .i64 0, .int .i64 0] 47)) (.cells #[.int .i64 0, .int .i64 0, .int .i64 0, .int .i64 0, .int .i64 0, .int .i64 0, .int .i64 0, .int .i64 0, .int .i64 0, .int .i64 0] 47))
  have hL0 := Kd.C_below hL HB.out
  have HL := Aside0.mk hL
  have HV := Aside0.mk (ValidBooks_c A c L _ hL0)
  clear hL hL0 hb1 hb2
  cases h : vBooks L
  · rw [h] at HV
    have HE := Aside0.mk (show cntV L = [0, 0, 0, 0, 0, 0, 0, 0, 0, 0] ∧ eV L = 1 by unfold cntV eV; rw [h]; exact ⟨rfl, rfl⟩)
    clear h
    go_enter Try.func44, Try.ntmps44
    go_wp2_with fail
    generalize hW : World.alloc (World.alloc w _) _ = w1 at H1 H2 HB HV ⊢
    clear hW
    refine HV.out.mono ?_; rintro _ w2 ⟨rfl, hb1⟩
    have hz := blk_below H1.out hb1
    have hy := blk_below H2.out hb1
    have hB := bstep HB.out hb1
    have c0 := blk_cell hy 0
    have f0 := blk_frozen hz 0
    have e0 := blk_cell hz 0
    have c1 := blk_cell hy 1
    have f1 := blk_frozen hz 1
    have e1 := blk_cell hz 1
    have c2 := blk_cell hy 2
    have f2 := blk_frozen hz 2
    have e2 := blk_cell hz 2
    have c3 := blk_cell hy 3
    have f3 := blk_frozen hz 3
    have e3 := blk_cell hz 3
    have c4 := blk_cell hy 4
    have f4 := blk_frozen hz 4
    have e4 := blk_cell hz 4
    have c5 := blk_cell hy 5
    have f5 := blk_frozen hz 5
    have e5 := blk_cell hz 5
    have c6 := blk_cell hy 6
    have f6 := blk_frozen hz 6
    have e6 := blk_cell hz 6
    have c7 := blk_cell hy 7
    have f7 := blk_frozen hz 7
    have e7 := blk_cell hz 7
    have c8 := blk_cell hy 8
    have f8 := blk_frozen hz 8
    have e8 := blk_cell hz 8
    have c9 := blk_cell hy 9
    have f9 := blk_frozen hz 9
    have e9 := blk_cell hz 9
    simp only [List.getElem?_toArray, List.getElem?_cons_zero, List.getElem?_cons_succ] at c0 e0 c1 e1 c2 e2 c3 e3 c4 e4 c5 e5 c6 e6 c7 e7 c8 e8 c9 e9
    have HZ := Aside0.mk (put10 hz rfl (.int .i64 0) (.int .i64 0) (.int .i64 0) (.int .i64 0) (.int .i64 0) (.int .i64 0) (.int .i64 0) (.int .i64 0) (.int .i64 0) (.int .i64 0))
    have HB2 := Aside0.mk (below10 hB (Nat.le_refl _) (.int .i64 0) (.int .i64 0) (.int .i64 0) (.int .i64 0) (.int .i64 0) (.int .i64 0) (.int .i64 0) (.int .i64 0) (.int .i64 0) (.int .i64 0))
    clear hb1 hz hy hB
    go_wp2
    have hz := HZ.out
    have hB := HB2.out
    clear HZ HB2 c0 f0 e0 c1 f1 e1 c2 f2 e2 c3 f3 e3 c4 f4 e4 c5 f5 e5 c6 f6 e6 c7 f7 e7 c8 f8 e8 c9 f9 e9
    generalize World.setCell (World.setCell (World.setCell _ _ _) _ _) _ _ = wz at hz hB ⊢
    have g0 := blk_cell hz 0
    have g1 := blk_cell hz 1
    have g2 := blk_cell hz 2
    have g3 := blk_cell hz 3
    have g4 := blk_cell hz 4
    have g5 := blk_cell hz 5
    have g6 := blk_cell hz 6
    have g7 := blk_cell hz 7
    have g8 := blk_cell hz 8
    have g9 := blk_cell hz 9
    simp only [List.getElem?_toArray, List.getElem?_cons_zero, List.getElem?_cons_succ] at g0 g1 g2 g3 g4 g5 g6 g7 g8 g9
    exact bodyPost_ret (v := .tuple #[.agg #[.int .i64 0, .int .i64 0, .int .i64 0, .int .i64 0, .int .i64 0, .int .i64 0, .int .i64 0, .int .i64 0, .int .i64 0, .int .i64 0], .int .i64 1]) (by simp [results, Try.results44, go_sem, g0, g1, g2, g3, g4, g5, g6, g7, g8, g9]) rfl ⟨by rw [HE.out.1, HE.out.2]; rfl, hB⟩
  · rw [h] at HV
    have HE := Aside0.mk (show cntV L = cntL L ∧ eV L = 0 by unfold cntV eV; rw [h]; exact ⟨rfl, rfl⟩)
    have HCL := Aside0.mk (vBooks_class h)
    clear h
    go_enter Try.func44, Try.ntmps44
    go_wp2_with fail
    generalize hW : World.alloc (World.alloc w _) _ = w1 at H1 H2 HB HV ⊢
    clear hW
    refine HV.out.mono ?_; rintro _ w2 ⟨rfl, hb1⟩
    have G1 := Aside0.mk (blk_below H1.out hb1)
    have G2 := Aside0.mk (blk_below H2.out hb1)
    have GB := Aside0.mk (bstep HB.out hb1)
    clear H1 H2 HB HV hb1
    go_wp2_with fail
    go_loopg [13] L.length (fun gk v wr => ∃ k : Nat, k + gk = L.length ∧ v = .int .i64 k ∧ Aside0 (wr.heap[w.heap.size]? = some (.cells #[.int .i64 0, .int .i64 0, .int .i64 0, .int .i64 0, .int .i64 0, .int .i64 0, .int .i64 0, .int .i64 0, .int .i64 0, .int .i64 0] 47 (0, 0))) ∧ Aside0 (wr.heap[w.heap.size + 1]? = some (.cells (arr (cntL (L.take k))) 47 (0, 0))) ∧ Aside0 (Below w.heap.size w wr))
    case atStart => exact ⟨0, by omega, rfl, G1, ⟨G2.out⟩, GB⟩
    case round =>
      clear G1 G2 GB
      obtain ⟨k, hk, rfl, H1, H2, HB⟩ := hrel
      have HK := Aside0.mk hk
      by_cases hlt : k < L.length
      · obtain ⟨ad, b, rfl, hbk, x0, x1, x2, x3, x4, x5, x6, x7⟩ := at_bk (Kd.C_below HL.out HB.out) k hlt
        have HN := Aside0.mk (cntL_next hbk.out)
        obtain ⟨i0, i9⟩ := HCL.out b (mem_of hbk.out)
        have hl := cntL_len (L.take k)
        obtain ⟨xs, hxs⟩ : ∃ xs, cntL (L.take k) = xs := ⟨_, rfl⟩
        rw [hxs] at H2 HN hl
        obtain ⟨q, hq⟩ : ∃ q : Nat, (b.c / 100).toNat = q := ⟨_, rfl⟩
        have hq9 : q < 10 := by omega
        have hqw : IntKind.i16.wrap (b.c.tdiv 100) = (q : Int) := by
          rw [Int.tdiv_eq_ediv_of_nonneg i0, ← hq]
          simp only [IntKind.wrap, IntKind.bits, IntKind.signed, Bool.true_and, decide_eq_true_eq, ge_iff_le]; split <;> omega
        have q0 : (0 : Int) ≤ (q : Int) := by omega
        have q9 : (q : Int) < 10 := by omega
        have hl2 := blk_lt H2.out
        have hc0 := (blk_cell H2.out q).trans (arr_at (by omega))
        have hf0 := blk_frozen H2.out q
        have HNX := Aside0.mk (show cntStep xs b = xs.set q (wrap64 (xs.getD q 0 + 1)) by unfold cntStep; rw [hq])
        have HLX := Aside0.mk hl
        obtain ⟨n, hn⟩ : ∃ n, xs.getD q 0 = n := ⟨_, rfl⟩
        rw [hn] at hc0 HNX
        clear hk hxs hl hq hn
        go_wp2
        go_roundg (gk - 1)
        case measure => have := HK.out; omega
        case rel =>
          refine ⟨k + 1, by have := HK.out; omega, by go_num, ⟨?_⟩, ⟨?_⟩, ⟨?_⟩⟩
          · exact blk_alloc (blk_far H1.out (by simp) _) _
          · rw [HN.out, HNX.out]
            have := blk_alloc (blk_set H2.out q (.int .i64 (wrap64 (n + 1)))) (.cells #[.int .i16 b.c, .int .u8 b.m0, .int .u8 b.m1, .int .u8 b.m2, .int .i16 b.v, .int .i16 b.wd, .int .i16 b.h, .int .i16 b.wt] 34)
            rw [arr_set] at this
            exact this
          · exact balloc (Below.setCell HB.out (by simp) _) _
      · have HFN := Aside0.mk (show cntL (L.take k) = cntL L by rw [List.take_of_length_le (by omega)])
        rw [HFN.out] at H2
        obtain ⟨y0, y1, y2, y3, y4, y5, y6, y7, y8, y9, hx⟩ := ten (cntL_len L)
        rw [hx] at H2
        have HX := Aside0.mk hx
        clear hx hk
        have hz := H1.out
        have hy := H2.out
        have hB := HB.out
        simp only [arr, List.map_cons, List.map_nil] at hy
        have c0 := blk_cell hy 0
        have f0 := blk_frozen hz 0
        have e0 := blk_cell hz 0
        have c1 := blk_cell hy 1
        have f1 := blk_frozen hz 1
        have e1 := blk_cell hz 1
        have c2 := blk_cell hy 2
        have f2 := blk_frozen hz 2
        have e2 := blk_cell hz 2
        have c3 := blk_cell hy 3
        have f3 := blk_frozen hz 3
        have e3 := blk_cell hz 3
        have c4 := blk_cell hy 4
        have f4 := blk_frozen hz 4
        have e4 := blk_cell hz 4
        have c5 := blk_cell hy 5
        have f5 := blk_frozen hz 5
        have e5 := blk_cell hz 5
        have c6 := blk_cell hy 6
        have f6 := blk_frozen hz 6
        have e6 := blk_cell hz 6
        have c7 := blk_cell hy 7
        have f7 := blk_frozen hz 7
        have e7 := blk_cell hz 7
        have c8 := blk_cell hy 8
        have f8 := blk_frozen hz 8
        have e8 := blk_cell hz 8
        have c9 := blk_cell hy 9
        have f9 := blk_frozen hz 9
        have e9 := blk_cell hz 9
        simp only [List.getElem?_toArray, List.getElem?_cons_zero, List.getElem?_cons_succ] at c0 e0 c1 e1 c2 e2 c3 e3 c4 e4 c5 e5 c6 e6 c7 e7 c8 e8 c9 e9
        have HZ := Aside0.mk (put10 hz rfl (.int .i64 y0) (.int .i64 y1) (.int .i64 y2) (.int .i64 y3) (.int .i64 y4) (.int .i64 y5) (.int .i64 y6) (.int .i64 y7) (.int .i64 y8) (.int .i64 y9))
        have HB2 := Aside0.mk (below10 hB (Nat.le_refl _) (.int .i64 y0) (.int .i64 y1) (.int .i64 y2) (.int .i64 y3) (.int .i64 y4) (.int .i64 y5) (.int .i64 y6) (.int .i64 y7) (.int .i64 y8) (.int .i64 y9))
        clear hz hy hB
        go_wp2
        have hz := HZ.out
        have hB := HB2.out
        clear HZ HB2 c0 f0 e0 c1 f1 e1 c2 f2 e2 c3 f3 e3 c4 f4 e4 c5 f5 e5 c6 f6 e6 c7 f7 e7 c8 f8 e8 c9 f9 e9
        generalize World.setCell (World.setCell (World.setCell _ _ _) _ _) _ _ = wz at hz hB ⊢
        have g0 := blk_cell hz 0
        have g1 := blk_cell hz 1
        have g2 := blk_cell hz 2
        have g3 := blk_cell hz 3
        have g4 := blk_cell hz 4
        have g5 := blk_cell hz 5
        have g6 := blk_cell hz 6
        have g7 := blk_cell hz 7
        have g8 := blk_cell hz 8
        have g9 := blk_cell hz 9
        simp only [List.getElem?_toArray, List.getElem?_cons_zero, List.getElem?_cons_succ] at g0 g1 g2 g3 g4 g5 g6 g7 g8 g9
        exact bodyPost_ret (v := .tuple #[.agg #[.int .i64 y0, .int .i64 y1, .int .i64 y2, .int .i64 y3, .int .i64 y4, .int .i64 y5, .int .i64 y6, .int .i64 y7, .int .i64 y8, .int .i64 y9], .int .i64 0]) (by simp [results, Try.results44, go_sem, g0, g1, g2, g3, g4, g5, g6, g7, g8, g9]) rfl ⟨by rw [HE.out.1, HE.out.2, HX.out]; rfl, hB⟩
set_option maxHeartbeats 4000000 in
theorem specCountByHundreds_c (A : Option Addr) (c : Nat) (L : List Bk) (hok : OkL L) (w : World) (hL : kBk.C w A L.length L) : Calls Try.prog 43 #[.slice A L.length c] w (Ret w (.tuple #[.agg (arr (cntV L)), .int .i64 (eV L)])) := by
  have hm := Kd.C_max hL
  have hb1 := blk_alloc (blk_new w (.cells #[.int .i64 0, .int .i64 0, .int .i64 0, .int .i64 0, .int .i64 0, .int .i64 0, .int .i64 0, .int .i64 0, .int .i64 0, .int .i64 0] 47)) (.cells #[.int .i64 0, .int .i64 0, .int .i64 0, .int .i64 0, .int .i64 0, .int .i64 0, .int .i64 0, .int .i64 0, .int .i64 0, .int .i64 0] 47)
  have hb2 := blk_new (w.alloc (.cells #[.int .i64 0, .int .i64 0, .int .i64 0, .int .i64 0, .int .i64 0, .int .i64 0, .int .i64 0, .int .i64 0, .int .i64 0, .int .i64 0] 47)) (.cells #[.int .i64 0, .int .i64 0, .int .i64 0, .int .i64 0, .int .i64 0, .int .i64 0, .int .i64 0, .int .i64 0, .int .i64 0, .int .i64 0] 47)
  rw [World.size_alloc] at hb2
  have H1 := Aside0.mk hb1
  have H2 := Aside0.mk hb2
  have HB := Aside0.mk (balloc (balloc (Below.refl w.heap.size w) (.cells #[.int .i64 0, .int .i64 0, .int .i64 0, .int .i64 0, .int .i64 0, .int .i64 0, .int .i64 0, .int .i64 0, .int .i64 0, .int .i64 0] 47)) (.cells #[.int .i64 0, .int .i64 0, .int .i64 0, .int .i64 0, .int .i64 0, .int .i64 0, .int .i64 0, .int .i64 0, .int .i64 0, .int .i64 0] 47))
  have hL0 := Kd.C_below hL HB.out
  have HL := Aside0.mk hL
  have HV := Aside0.mk (l01Ok_c A c L hok _ hL0)
  clear hL hL0 hb1 hb2
  cases h : vBooks L
  · rw [h] at HV
    have HE := Aside0.mk (show cntV L = [0, 0, 0, 0, 0, 0, 0, 0, 0, 0] ∧ eV L = 1 by unfold cntV eV; rw [h]; exact ⟨rfl, rfl⟩)
    clear h
    go_enter Try.func43, Try.ntmps43
    go_wp2_with fail
    generalize hW : World.alloc (World.alloc w _) _ = w1 at H1 H2 HB HV ⊢
    clear hW
    refine HV.out.mono ?_; rintro _ w2 ⟨rfl, hb1⟩
    have hz := blk_below H1.out hb1
    have hy := blk_below H2.out hb1
    have hB := bstep HB.out hb1
    have c0 := blk_cell hy 0
    have f0 := blk_frozen hz 0
    have e0 := blk_cell hz 0
    have c1 := blk_cell hy 1
    have f1 := blk_frozen hz 1
    have e1 := blk_cell hz 1
    have c2 := blk_cell hy 2
    have f2 := blk_frozen hz 2
    have e2 := blk_cell hz 2
    have c3 := blk_cell hy 3
    have f3 := blk_frozen hz 3
    have e3 := blk_cell hz 3
    have c4 := blk_cell hy 4
    have f4 := blk_frozen hz 4
    have e4 := blk_cell hz 4
    have c5 := blk_cell hy 5
    have f5 := blk_frozen hz 5
    have e5 := blk_cell hz 5
    have c6 := blk_cell hy 6
    have f6 := blk_frozen hz 6
    have e6 := blk_cell hz 6
    have c7 := blk_cell hy 7
    have f7 := blk_frozen hz 7
    have e7 := blk_cell hz 7
    have c8 := blk_cell hy 8
    have f8 := blk_frozen hz 8
    have e8 := blk_cell hz 8
    have c9 := blk_cell hy 9
    have f9 := blk_frozen hz 9
    have e9 := blk_cell hz 9
    simp only [List.getElem?_toArray, List.getElem?_cons_zero, List.getElem?_cons_succ] at c0 e0 c1 e1 c2 e2 c3 e3 c4 e4 c5 e5 c6 e6 c7 e7 c8 e8 c9 e9
    have HZ := Aside0.mk (put10 hz rfl (.int .i64 0) (.int .i64 0) (.int .i64 0) (.int .i64 0) (.int .i64 0) (.int .i64 0) (.int .i64 0) (.int .i64 0) (.int .i64 0) (.int .i64 0))
    have HB2 := Aside0.mk (below10 hB (Nat.le_refl _) (.int .i64 0) (.int .i64 0) (.int .i64 0) (.int .i64 0) (.int .i64 0) (.int .i64 0) (.int .i64 0) (.int .i64 0) (.int .i64 0) (.int .i64 0))
    clear hb1 hz hy hB
    go_wp2
    have hz := HZ.out
    have hB := HB2.out
    clear HZ HB2 c0 f0 e0 c1 f1 e1 c2 f2 e2 c3 f3 e3 c4 f4 e4 c5 f5 e5 c6 f6 e6 c7 f7 e7 c8 f8 e8 c9 f9 e9
    generalize World.setCell (World.setCell (World.setCell _ _ _) _ _) _ _ = wz at hz hB ⊢
    have g0 := blk_cell hz 0
    have g1 := blk_cell hz 1
    have g2 := blk_cell hz 2
    have g3 := blk_cell hz 3
    have g4 := blk_cell hz 4
    have g5 := blk_cell hz 5
    have g6 := blk_cell hz 6
    have g7 := blk_cell hz 7
    have g8 := blk_cell hz 8
    have g9 := blk_cell hz 9
    simp only [List.getElem?_toArray, List.getElem?_cons_zero, List.getElem?_cons_succ] at g0 g1 g2 g3 g4 g5 g6 g7 g8 g9
    exact bodyPost_ret (v := .tuple #[.agg #[.int .i64 0, .int .i64 0, .int .i64 0, .int .i64 0, .int .i64 0, .int .i64 0, .int .i64 0, .int .i64 0, .int .i64 0, .int .i64 0], .int .i64 1]) (by simp [results, Try.results43, go_sem, g0, g1, g2, g3, g4, g5, g6, g7, g8, g9]) rfl ⟨by rw [HE.out.1, HE.out.2]; rfl, hB⟩
  · rw [h] at HV
    have HE := Aside0.mk (show cntV L = cntL L ∧ eV L = 0 by unfold cntV eV; rw [h]; exact ⟨rfl, rfl⟩)
    have HCL := Aside0.mk (vBooks_class h)
    clear h
    go_enter Try.func43, Try.ntmps43
    go_wp2_with fail
    generalize hW : World.alloc (World.alloc w _) _ = w1 at H1 H2 HB HV ⊢
    clear hW
    refine HV.out.mono ?_; rintro _ w2 ⟨rfl, hb1⟩
    have G1 := Aside0.mk (blk_below H1.out hb1)
    have G2 := Aside0.mk (blk_below H2.out hb1)
    have GB := Aside0.mk (bstep HB.out hb1)
    clear H1 H2 HB HV hb1
    go_wp2_with fail
    go_loopg [5] L.length (fun gk v wr => ∃ k : Nat, k + gk = L.length ∧ v = .int .i64 k ∧ Aside0 (wr.heap[w.heap.size]? = some (.cells #[.int .i64 0, .int .i64 0, .int .i64 0, .int .i64 0, .int .i64 0, .int .i64 0, .int .i64 0, .int .i64 0, .int .i64 0, .int .i64 0] 47 (0, 0))) ∧ Aside0 (wr.heap[w.heap.size + 1]? = some (.cells (arr (cntL (L.take k))) 47 (0, 0))) ∧ Aside0 (Below w.heap.size w wr))
    case atStart => exact ⟨0, by omega, rfl, G1, ⟨G2.out⟩, GB⟩
    case round =>
      clear G1 G2 GB
      obtain ⟨k, hk, rfl, H1, H2, HB⟩ := hrel
      have HK := Aside0.mk hk
      by_cases hlt : k < L.length
      · obtain ⟨ad, b, rfl, hbk, x0, x1, x2, x3, x4, x5, x6, x7⟩ := at_bk (Kd.C_below HL.out HB.out) k hlt
        have HN := Aside0.mk (cntL_next hbk.out)
        obtain ⟨i0, i9⟩ := HCL.out b (mem_of hbk.out)
        have hl := cntL_len (L.take k)
        obtain ⟨xs, hxs⟩ : ∃ xs, cntL (L.take k) = xs := ⟨_, rfl⟩
        rw [hxs] at H2 HN hl
        obtain ⟨q, hq⟩ : ∃ q : Nat, (b.c / 100).toNat = q := ⟨_, rfl⟩
        have hq9 : q < 10 := by omega
        have hqw : IntKind.i16.wrap (b.c.tdiv 100) = (q : Int) := by
          rw [Int.tdiv_eq_ediv_of_nonneg i0, ← hq]
          simp only [IntKind.wrap, IntKind.bits, IntKind.signed, Bool.true_and, decide_eq_true_eq, ge_iff_le]; split <;> omega
        have q0 : (0 : Int) ≤ (q : Int) := by omega
        have q9 : (q : Int) < 10 := by omega
        have hl2 := blk_lt H2.out
        have hc0 := (blk_cell H2.out q).trans (arr_at (by omega))
        have hf0 := blk_frozen H2.out q
        have HNX := Aside0.mk (show cntStep xs b = xs.set q (wrap64 (xs.getD q 0 + 1)) by unfold cntStep; rw [hq])
        have HLX := Aside0.mk hl
        obtain ⟨n, hn⟩ : ∃ n, xs.getD q 0 = n := ⟨_, rfl⟩
        rw [hn] at hc0 HNX
        clear hk hxs hl hq hn
        go_wp2
        go_roundg (gk - 1)
        case measure => have := HK.out; omega
        case rel =>
          refine ⟨k + 1, by have := HK.out; omega, by go_num, ⟨?_⟩, ⟨?_⟩, ⟨?_⟩⟩
          · exact blk_far H1.out (by simp) _
          · rw [HN.out, HNX.out]
            have := blk_set H2.out q (.int .i64 (wrap64 (n + 1)))
            rw [arr_set] at this
            exact this
          · exact Below.setCell HB.out (by simp) _
      · have HFN := Aside0.mk (show cntL (L.take k) = cntL L by rw [List.take_of_length_le (by omega)])
        rw [HFN.out] at H2
        obtain ⟨y0, y1, y2, y3, y4, y5, y6, y7, y8, y9, hx⟩ := ten (cntL_len L)
        rw [hx] at H2
        have HX := Aside0.mk hx
        clear hx hk
        have hz := H1.out
        have hy := H2.out
        have hB := HB.out
        simp only [arr, List.map_cons, List.map_nil] at hy
        have c0 := blk_cell hy 0
        have f0 := blk_frozen hz 0
        have e0 := blk_cell hz 0
        have c1 := blk_cell hy 1
        have f1 := blk_frozen hz 1
        have e1 := blk_cell hz 1
        have c2 := blk_cell hy 2
        have f2 := blk_frozen hz 2
        have e2 := blk_cell hz 2
        have c3 := blk_cell hy 3
        have f3 := blk_frozen hz 3
        have e3 := blk_cell hz 3
        have c4 := blk_cell hy 4
        have f4 := blk_frozen hz 4
        have e4 := blk_cell hz 4
        have c5 := blk_cell hy 5
        have f5 := blk_frozen hz 5
        have e5 := blk_cell hz 5
        have c6 := blk_cell hy 6
        have f6 := blk_frozen hz 6
        have e6 := blk_cell hz 6
        have c7 := blk_cell hy 7
        have f7 := blk_frozen hz 7
        have e7 := blk_cell hz 7
        have c8 := blk_cell hy 8
        have f8 := blk_frozen hz 8
        have e8 := blk_cell hz 8
        have c9 := blk_cell hy 9
        have f9 := blk_frozen hz 9
        have e9 := blk_cell hz 9
        simp only [List.getElem?_toArray, List.getElem?_cons_zero, List.getElem?_cons_succ] at c0 e0 c1 e1 c2 e2 c3 e3 c4 e4 c5 e5 c6 e6 c7 e7 c8 e8 c9 e9
        have HZ := Aside0.mk (put10 hz rfl (.int .i64 y0) (.int .i64 y1) (.int .i64 y2) (.int .i64 y3) (.int .i64 y4) (.int .i64 y5) (.int .i64 y6) (.int .i64 y7) (.int .i64 y8) (.int .i64 y9))
        have HB2 := Aside0.mk (below10 hB (Nat.le_refl _) (.int .i64 y0) (.int .i64 y1) (.int .i64 y2) (.int .i64 y3) (.int .i64 y4) (.int .i64 y5) (.int .i64 y6) (.int .i64 y7) (.int .i64 y8) (.int .i64 y9))
        clear hz hy hB
        go_wp2
        have hz := HZ.out
        have hB := HB2.out
        clear HZ HB2 c0 f0 e0 c1 f1 e1 c2 f2 e2 c3 f3 e3 c4 f4 e4 c5 f5 e5 c6 f6 e6 c7 f7 e7 c8 f8 e8 c9 f9 e9
        generalize World.setCell (World.setCell (World.setCell _ _ _) _ _) _ _ = wz at hz hB ⊢
        have g0 := blk_cell hz 0
        have g1 := blk_cell hz 1
        have g2 := blk_cell hz 2
        have g3 := blk_cell hz 3
        have g4 := blk_cell hz 4
        have g5 := blk_cell hz 5
        have g6 := blk_cell hz 6
        have g7 := blk_cell hz 7
        have g8 := blk_cell hz 8
        have g9 := blk_cell hz 9
        simp only [List.getElem?_toArray, List.getElem?_cons_zero, List.getElem?_cons_succ] at g0 g1 g2 g3 g4 g5 g6 g7 g8 g9
        exact bodyPost_ret (v := .tuple #[.agg #[.int .i64 y0, .int .i64 y1, .int .i64 y2, .int .i64 y3, .int .i64 y4, .int .i64 y5, .int .i64 y6, .int .i64 y7, .int .i64 y8, .int .i64 y9], .int .i64 0]) (by simp [results, Try.results43, go_sem, g0, g1, g2, g3, g4, g5, g6, g7, g8, g9]) rfl ⟨by rw [HE.out.1, HE.out.2, HX.out]; rfl, hB⟩
set_option maxHeartbeats 4000000 in
theorem eqA10_c (x0 x1 x2 x3 x4 x5 x6 x7 x8 x9 : Int) (w : World) : Calls Try.prog 45 #[.agg #[.int .i64 x0, .int .i64 x1, .int .i64 x2, .int .i64 x3, .int .i64 x4, .int .i64 x5, .int .i64 x6, .int .i64 x7, .int .i64 x8, .int .i64 x9], .agg #[.int .i64 x0, .int .i64 x1, .int .i64 x2, .int .i64 x3, .int .i64 x4, .int .i64 x5, .int .i64 x6, .int .i64 x7, .int .i64 x8, .int .i64 x9]] w (Ret w (.bool true)) := by
  have a0 := blk_alloc (blk_new w (.cells #[.int .i64 x0, .int .i64 x1, .int .i64 x2, .int .i64 x3, .int .i64 x4, .int .i64 x5, .int .i64 x6, .int .i64 x7, .int .i64 x8, .int .i64 x9] 47)) (.cells #[.int .i64 x0, .int .i64 x1, .int .i64 x2, .int .i64 x3, .int .i64 x4, .int .i64 x5, .int .i64 x6, .int .i64 x7, .int .i64 x8, .int .i64 x9] 47)
  have b0 := blk_new (w.alloc (.cells #[.int .i64 x0, .int .i64 x1, .int .i64 x2, .int .i64 x3, .int .i64 x4, .int .i64 x5, .int .i64 x6, .int .i64 x7, .int .i64 x8, .int .i64 x9] 47)) (.cells #[.int .i64 x0, .int .i64 x1, .int .i64 x2, .int .i64 x3, .int .i64 x4, .int .i64 x5, .int .i64 x6, .int .i64 x7, .int .i64 x8, .int .i64 x9] 47)
  rw [World.size_alloc] at b0
  have HB := Aside0.mk (balloc (balloc (Below.refl w.heap.size w) (.cells #[.int .i64 x0, .int .i64 x1, .int .i64 x2, .int .i64 x3, .int .i64 x4, .int .i64 x5, .int .i64 x6, .int .i64 x7, .int .i64 x8, .int .i64 x9] 47)) (.cells #[.int .i64 x0, .int .i64 x1, .int .i64 x2, .int .i64 x3, .int .i64 x4, .int .i64 x5, .int .i64 x6, .int .i64 x7, .int .i64 x8, .int .i64 x9] 47))
  have H0 := Aside0.mk a0
  have H1 := Aside0.mk b0
  clear a0 b0
  go_enter Try.func45, Try.ntmps45
  go_wp2
  generalize World.alloc (World.alloc w _) _ = w1 at H0 H1 HB ⊢
  have c0 := blk_cell H0.out 0
  have d0 := blk_cell H1.out 0
  have c1 := blk_cell H0.out 1
  have d1 := blk_cell H1.out 1
  have c2 := blk_cell H0.out 2
  have d2 := blk_cell H1.out 2
  have c3 := blk_cell H0.out 3
  have d3 := blk_cell H1.out 3
  have c4 := blk_cell H0.out 4
  have d4 := blk_cell H1.out 4
  have c5 := blk_cell H0.out 5
  have d5 := blk_cell H1.out 5
  have c6 := blk_cell H0.out 6
  have d6 := blk_cell H1.out 6
  have c7 := blk_cell H0.out 7
  have d7 := blk_cell H1.out 7
  have c8 := blk_cell H0.out 8
  have d8 := blk_cell H1.out 8
  have c9 := blk_cell H0.out 9
  have d9 := blk_cell H1.out 9
  simp only [List.getElem?_toArray, List.getElem?_cons_zero, List.getElem?_cons_succ] at c0 d0 c1 d1 c2 d2 c3 d3 c4 d4 c5 d5 c6 d6 c7 d7 c8 d8 c9 d9
  refine wp_loop_rounds 11 ?_
  iterate 10 (rw [rounds_succ]; go_wp2_with fail; go_quiet (fail); go_wp2)
  rw [rounds_succ]
  go_wp2_with fail
  go_ret
  exact ⟨rfl, by repeat (first | exact HB.out | refine bdrewN ?_ _)⟩
end Go.Proofs.Ytgdhopcbiekhhaa
