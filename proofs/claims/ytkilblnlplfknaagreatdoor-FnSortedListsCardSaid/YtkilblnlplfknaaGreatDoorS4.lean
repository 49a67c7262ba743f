/- Texts of this proof that belong together: SrcB, PlO, SrcP, SmN, Tail, Spec, StX, TxP, Shelf, TxE, TxS, TxL, TxY, ShelfP, TxV, TxU, TxQ, TxB, TxW, TxR, Eq. No condition. -/
import Derived.Test.YtkilblnlplfknaaGreatDoorS3
import Derived.StillTailTactics
import Derived.Still
import Derived.Deep.QuietTactic
import Derived.BigQuiet
import Derived.BigRegion
import Derived.RegionTactic
import Derived.ChangeAlike
import Derived.Deep.RegionHeld3
import Derived.Laws.BitsLemmas
import Derived.Deep.RegionWith
import Derived.Deep.RegionLaw
import Derived.StillTail
import Derived.Deep.Quiet
import Derived.Lib.ItoaNum
import Derived.Lib.Join
import Derived.Lib.Split
import Derived.Lib.AtoiTie
import Derived.Lib.ParseIntBTie
import Derived.Shelf.Strings.Builder1
import Derived.Shelf.Strings.Builder2
import Derived.Shelf.Strings.OnBuilder
import Derived.Shelf.Strings.BuilderF
import Derived.Shelf.Strings.BuilderK
import Derived.Shelf.Strconv.Itoa0
import Derived.Shelf.Strconv.Itoa1
import Derived.Shelf.LaysM
import Derived.Shelf.Strconv.Itoa2
import Derived.Shelf.Strconv.Itoa3
import Derived.Shelf.Strconv.Itoa4
import Derived.Shelf.Strconv.Clone
import Derived.Shelf.Strconv.Lower
import Derived.Shelf.Strings.Search1
import Derived.Shelf.Strings.Search2
import Derived.Shelf.Strings.Search3
import Derived.Shelf.Strings.Cut
import Derived.Shelf.Strings.Count
import Derived.Shelf.Strings.Shaped
import Derived.Shelf.Strings.Split
import Derived.Shelf.Strings.SplitShaped
import Derived.Shelf.Unicode.DecodeSlow
import Derived.Test.YtkilblnlplfknaaGreatDoorProg
import Derived.Lib.LaidTab
import Derived.Lib.SmallJoins
import Derived.Shelf.Strconv.ParseIntEmpty
import Derived.Shelf.Strconv.SyntaxError
import Derived.Shelf.LaysC
import Derived.Shelf.Strconv.ToError
import Derived.Shelf.Strconv.ParseUint10
import Derived.Shelf.Strconv.ParseUint10Empty
import Derived.Shelf.Strconv.ParseUint10Any
import Derived.Shelf.Strconv.ParseInt10
import Derived.Shelf.Strconv.RangeError
import Derived.Shelf.Strconv.ToErrorRange
import Derived.Shelf.Strconv.ParseUintEmpty
import Derived.Shelf.Strconv.ParseUint10b64
import Derived.Shelf.Strconv.ParseUint10b32
import Derived.Shelf.Strconv.ParseUint10b16
import Derived.Shelf.Strconv.ParseUint10b8
import Derived.Shelf.Strconv.ParseUint10At
import Derived.Shelf.Strconv.ParseInt10At64
import Derived.Shelf.Strconv.ParseInt10At32
import Derived.Shelf.Strconv.ParseInt10At16
import Derived.Shelf.Strconv.ParseInt10At8
import Derived.Shelf.Strconv.ParseInt10All
import Derived.Shelf.Strconv.ParseIntPublic10
import Derived.Shelf.Strconv.ErrVarParseInt
import Derived.Lib.AtoiErrMem
import Derived.Lib.SplitLaws
section
/- Drawing books from bytes: the source, a book, a list of books; the lists, orders and numbers of the laws on books. -/
namespace Go.Proofs.YtkilblnlplfknaaGreatDoor
open Go.RowKit Go.Proofs.YtkilblnlplfknaaGreatDoorW.PrintWords Go.Proofs.YtkilblnlplfknaaGreatDoorW.PrintMore
set_option linter.unusedVariables false
set_option linter.unusedSimpArgs false
set_option maxRecDepth 100000

theorem u64_wrap (n : Int) : IntKind.u64.wrap n = n % 18446744073709551616 := by simp [IntKind.wrap, IntKind.bits, IntKind.signed]
theorem u64_and255 {x : Int} (h0 : 0 ≤ x) (h1 : x < 18446744073709551616) : Go.bits .and .u64 x 255 = x % 256 :=
  bits_mask .u64 64 (by decide) (fun n h0 h1 => by rw [u64_wrap]; omega) 8 (by decide) x h0 h1
theorem wrap_suc' (n : Nat) (h : n ≤ 1000000) : IntKind.i64.wrap ((n : Int) + 1) = (n : Int) + 1 := by rw [IntKind.wrap_i64]; omega
/-- A source at block g: it has given at bytes of the text. -/
structure Src (w0 w : World) (g : Nat) (A : Option Addr) (c : Nat) (Cd : List Int) (at_ : Nat) : Prop where
  below : Below w0.heap.size w0 w
  base : w0.heap.size ≤ g
  code : (Kd.int .u8).C w0 A Cd.length Cd
  ok : ∀ x, x ∈ Cd → 0 ≤ x ∧ x ≤ 255
  blk : ∃ sd : Int, w.heap[g]? = some (.cells #[.slice A Cd.length c, .int .i64 at_, .int .u64 sd] 86 (0, 0)) ∧ 0 ≤ sd ∧ sd ≤ 18446744073709551615
theorem Src.step {w0 w w' : World} {g : Nat} {A : Option Addr} {c : Nat} {Cd : List Int} {at_ : Nat} (h : Src w0 w g A c Cd at_) (hb : Below w.heap.size w w') : Src w0 w' g A c Cd at_ := by
  obtain ⟨sd, h1, h2⟩ := h.blk
  exact ⟨bstep h.below hb, h.base, h.code, h.ok, sd, (hb.block g (Array.getElem?_eq_some_iff.1 h1).1).trans h1, h2⟩
theorem Src.lt {w0 w : World} {g : Nat} {A : Option Addr} {c : Nat} {Cd : List Int} {at_ : Nat} (h : Src w0 w g A c Cd at_) : g < w.heap.size := by
  obtain ⟨sd, h1, h2⟩ := h.blk
  exact (Array.getElem?_eq_some_iff.1 h1).1
/-- What else is written leaves the source as it was. -/
theorem Src.grown {w0 w w' : World} {g : Nat} {A : Option Addr} {c : Nat} {Cd : List Int} {at_ : Nat} {r : Option Nat} (h : Src w0 w g A c Cd at_) (hg : w.grownBy w' r) (hr : ∀ b, r = some b → g < b) : Src w0 w' g A c Cd at_ := by
  obtain ⟨sd, h1, h2⟩ := h.blk
  have hb := h.base
  exact ⟨pw_below_grown h.below r h.below.size hg (fun b e => by have := hr b e; omega), h.base, h.code, h.ok, sd, (hg.block g (Array.getElem?_eq_some_iff.1 h1).1 (fun e => by have := hr g e.symm; omega)).trans h1, h2⟩
/-- A number from lo to hi was drawn, with d bytes at most. -/
def Drew (w0 w : World) (g : Nat) (A : Option Addr) (c : Nat) (Cd : List Int) (at_ d : Nat) (lo hi : Int) (e : Ending) (w' : World) : Prop :=
  ∃ (r : Int) (a' : Nat), e = .returned (.int .i64 r) ∧ (lo ≤ r ∧ r ≤ hi) ∧ a' ≤ at_ + d ∧ Src w0 w' g A c Cd a' ∧ w.grownBy w' (some g)
theorem grown_put {w w1 : World} {g : Nat} (h : w.grownBy w1 (some g)) (i : Nat) (v : Value) : w.grownBy (w1.setCell ⟨g, i, none⟩ v) (some g) :=
  World.grownBy.trans h ⟨rfl, rfl, rfl, by simp, fun k _ hk => Below.heap_setCell w1 ⟨g, i, none⟩ _ k (fun e => hk (by rw [e]))⟩
theorem src_cells {w : World} {g : Nat} {A : Option Addr} {n c at_ : Nat} {sd : Int} (h : w.heap[g]? = some (.cells #[.slice A n c, .int .i64 at_, .int .u64 sd] 86 (0, 0))) :
    w.cell? ⟨g, 0, none⟩ = some (.slice A n c) ∧ w.cell? ⟨g, 1, none⟩ = some (.int .i64 at_) ∧ w.cell? ⟨g, 2, none⟩ = some (.int .u64 sd) ∧ w.frozen? ⟨g, 1, none⟩ = false ∧ w.frozen? ⟨g, 2, none⟩ = false :=
  ⟨(blk_cell h 0).trans rfl, (blk_cell h 1).trans rfl, (blk_cell h 2).trans rfl, blk_frozen h 1, blk_frozen h 2⟩
theorem bits255 {sd : Int} (h0 : 0 ≤ sd) (h1 : sd ≤ 18446744073709551615) : 0 ≤ Go.bits .and .u64 (sd / 1099511627776) 255 ∧ Go.bits .and .u64 (sd / 1099511627776) 255 ≤ 255 := by
  rw [u64_and255 (by omega) (by omega)]
  omega
theorem wrap_u64_bd (n : Int) : 0 ≤ IntKind.u64.wrap n ∧ IntKind.u64.wrap n ≤ 18446744073709551615 := by rw [u64_wrap]; omega
theorem grown_trans' {w w1 w2 : World} {r : Option Nat} (h : w.grownBy w1 r) (k : Below w1.heap.size w1 w2) : w.grownBy w2 r := World.grownBy.trans h (grown_of_below k r)
theorem src_new {w0 w w5 : World} {g : Nat} {A : Option Addr} {c : Nat} {Cd : List Int} {at_ : Nat} {S : Int} (h : Src w0 w g A c Cd at_) (hz : w5.heap[g]? = some (.cells #[.slice A Cd.length c, .int .i64 ((at_ : Int) + 1), .int .u64 S] 86 (0, 0))) (hS : 0 ≤ S ∧ S ≤ 18446744073709551615) (hg : w.grownBy w5 (some g)) : Src w0 w5 g A c Cd (at_ + 1) :=
  ⟨pw_below_grown h.below (some g) h.below.size hg (fun b e => by cases e; exact h.base), h.base, h.code, h.ok, S, by rw [show ((at_ + 1 : Nat) : Int) = (at_ : Int) + 1 by omega]; exact hz, hS.1, hS.2⟩
set_option maxHeartbeats 4000000 in
theorem next_c {w0 : World} {g : Nat} {A : Option Addr} {c : Nat} {Cd : List Int} {at_ : Nat} (hat : at_ ≤ 1000000) (w : World) (hs : Src w0 w g A c Cd at_) :
    Calls Tryz.prog 70 #[.pointer (some ⟨g, 0, none⟩)] w (Drew w0 w g A c Cd at_ 1 0 255) := by
  have hm := Kd.C_max hs.code
  obtain ⟨sd, hblk, hsd0, hsd1⟩ := hs.blk
  have HS := Aside0.mk hs
  have HG := Aside0.mk (fun W (h : Below w.heap.size w W) => (h.block g (Array.getElem?_eq_some_iff.1 hblk).1).trans hblk)
  have hwa := wrap_suc' at_ hat
  obtain ⟨y0, y1, y2, f1, f2⟩ := src_cells hblk
  have yO0 : ∀ p : Over w, _ := Over.cell y0
  have yO1 : ∀ p : Over w, _ := Over.cell y1
  have i0 : (0 : Int) ≤ (at_ : Int) := by omega
  by_cases hlt : at_ < Cd.length
  · obtain ⟨ad, x, rfl, hx, hxx⟩ := at_int' (Kd.C_below hs.code hs.below) at_ hlt
    have HXX := Aside0.mk hxx
    have HU := Aside0.mk (hs.ok x (mem_of hx.out))
    have d0 : decide ((at_ : Int) < (Cd.length : Int)) = true := decide_eq_true (by omega)
    have d0' : decide (at_ < Cd.length) = true := decide_eq_true hlt
    have d1 : decide ((at_ : Int) + 1 ≤ (Cd.length : Int)) = true := decide_eq_true (by omega)
    have d1' : decide (at_ + 1 ≤ Cd.length) = true := decide_eq_true (by omega)
    have i1 : (at_ : Int) < (Cd.length : Int) := by omega
    have hwx : wrap64 x = x := by have := HU.out; unfold wrap64; omega
    clear hs hblk hx hxx
    go_enter Tryz.func70, Tryz.ntmps70
    go_wp2_with fail
    refine region_over (by kernel_rfl) (by kernel_rfl) ?_
    repeat (go_big_quiet_step (fail))
    refine wpQuiet_nil ?_
    intro q1 hw'
    have hq_q1 := over_out hw'
    clear hw'
    have HQ1 := Aside0.mk hq_q1
    have hx1 := pw_cell_below hq_q1 HXX.out
    clear y0 y1 y2 f1 f2 yO0 yO1
    obtain ⟨y0, y1, y2, f1, f2⟩ := src_cells (HG.out _ hq_q1)
    have yO0 : ∀ p : Over q1, _ := Over.cell y0
    have yO1 : ∀ p : Over q1, _ := Over.cell y1
    have xO : ∀ p : Over q1, _ := Over.cell hx1
    clear hq_q1
    go_wp2_with fail
    refine region_over (by kernel_rfl) (by kernel_rfl) ?_
    repeat (go_big_quiet_step (fail))
    refine wpQuiet_nil ?_
    intro q2 hw'
    have hq_q2 := over_out hw'
    clear hw'
    have HQ2 := Aside0.mk (bstep HQ1.out hq_q2)
    clear y0 y1 y2 f1 f2 yO0 yO1 xO hx1 hq_q2
    obtain ⟨y0, y1, y2, f1, f2⟩ := src_cells (HG.out _ HQ2.out)
    have hp := blk_put (HG.out _ HQ2.out) 1 (.int .i64 ((at_ : Int) + 1)) rfl
    have c2 : (q2.setCell ⟨g, 1, none⟩ (.int .i64 ((at_ : Int) + 1))).cell? ⟨g, 2, none⟩ = some (.int .u64 sd) := (blk_cell hp 2).trans rfl
    have g2 := blk_frozen hp 2
    have HP := Aside0.mk hp
    clear hp
    go_wp2_with fail
    generalize hS5 : IntKind.u64.wrap (_ + 1442695040888963407) = S5
    have HS5 := Aside0.mk (show 0 ≤ S5 ∧ S5 ≤ 18446744073709551615 from by rw [← hS5]; exact wrap_u64_bd _)
    have hz := blk_put HP.out 2 (.int .u64 S5) rfl
    have hgr := grown_put (grown_put (grown_of_below HQ2.out (some g)) 1 (.int .i64 ((at_ : Int) + 1))) 2 (.int .u64 S5)
    clear hS5 y0 y1 y2 f1 f2 c2 g2 HP
    generalize World.setCell (World.setCell _ _ _) _ _ = w5 at hz hgr ⊢
    obtain ⟨y0, y1, y2, f1, f2⟩ := src_cells (at_ := at_ + 1) (by rw [show ((at_ + 1 : Nat) : Int) = (at_ : Int) + 1 by omega]; exact hz)
    rw [show ((at_ + 1 : Nat) : Int) = (at_ : Int) + 1 by omega] at y1
    have HSN := Aside0.mk (src_new HS.out hz HS5.out hgr)
    have HGR := Aside0.mk hgr
    have yO0 : ∀ p : Over w5, _ := Over.cell y0
    have yO1 : ∀ p : Over w5, _ := Over.cell y1
    clear hz hgr
    refine region_over (by kernel_rfl) (by kernel_rfl) ?_
    repeat (go_big_quiet_step (fail))
    refine wpQuiet_nil ?_
    intro q3 hw'
    have hq_q3 := over_out hw'
    clear hw'
    have HS3 := Aside0.mk (HSN.out.step hq_q3)
    have HG3 := Aside0.mk (grown_trans' HGR.out hq_q3)
    have hy2 := pw_cell_below hq_q3 y2
    clear y0 y1 y2 f1 f2 yO0 yO1 hq_q3
    go_wp2
    go_ret
    refine ⟨_, at_ + 1, rfl, ?_, by omega, HS3.out, HG3.out⟩
    first | exact HU.out | (rw [hwx]; exact HU.out) | (have := HU.out; unfold wrap64; omega)
  · have d0 : decide ((at_ : Int) < (Cd.length : Int)) = false := decide_eq_false (by omega)
    have d0' : decide (at_ < Cd.length) = false := decide_eq_false hlt
    have d1 : decide ((at_ : Int) + 1 ≤ (Cd.length : Int)) = false := decide_eq_false (by omega)
    have d1' : decide (at_ + 1 ≤ Cd.length) = false := decide_eq_false (by omega)
    clear hs hblk hlt
    go_enter Tryz.func70, Tryz.ntmps70
    go_wp2_with fail
    refine region_over (by kernel_rfl) (by kernel_rfl) ?_
    repeat (go_big_quiet_step (fail))
    refine wpQuiet_nil ?_
    intro q1 hw'
    have hq_q1 := over_out hw'
    clear hw'
    have HQ1 := Aside0.mk hq_q1
    clear y0 y1 y2 f1 f2 yO0 yO1 hq_q1
    obtain ⟨y0, y1, y2, f1, f2⟩ := src_cells (HG.out _ HQ1.out)
    have hp := blk_put (HG.out _ HQ1.out) 1 (.int .i64 ((at_ : Int) + 1)) rfl
    have c2 : (q1.setCell ⟨g, 1, none⟩ (.int .i64 ((at_ : Int) + 1))).cell? ⟨g, 2, none⟩ = some (.int .u64 sd) := (blk_cell hp 2).trans rfl
    have g2 := blk_frozen hp 2
    have HP := Aside0.mk hp
    clear hp
    go_wp2_with fail
    generalize hS5 : IntKind.u64.wrap (_ + 1442695040888963407) = S5
    have HS5 := Aside0.mk (show 0 ≤ S5 ∧ S5 ≤ 18446744073709551615 from by rw [← hS5]; exact wrap_u64_bd _)
    have hz := blk_put HP.out 2 (.int .u64 S5) rfl
    have hgr := grown_put (grown_put (grown_of_below HQ1.out (some g)) 1 (.int .i64 ((at_ : Int) + 1))) 2 (.int .u64 S5)
    clear hS5 y0 y1 y2 f1 f2 c2 g2 HP
    generalize World.setCell (World.setCell _ _ _) _ _ = w5 at hz hgr ⊢
    obtain ⟨y0, y1, y2, f1, f2⟩ := src_cells (at_ := at_ + 1) (by rw [show ((at_ + 1 : Nat) : Int) = (at_ : Int) + 1 by omega]; exact hz)
    rw [show ((at_ + 1 : Nat) : Int) = (at_ : Int) + 1 by omega] at y1
    have HSN := Aside0.mk (src_new HS.out hz HS5.out hgr)
    have HGR := Aside0.mk hgr
    have yO0 : ∀ p : Over w5, _ := Over.cell y0
    have yO1 : ∀ p : Over w5, _ := Over.cell y1
    clear hz hgr
    refine region_over (by kernel_rfl) (by kernel_rfl) ?_
    repeat (go_big_quiet_step (fail))
    refine wpQuiet_nil ?_
    intro q3 hw'
    have hq_q3 := over_out hw'
    clear hw'
    have HS3 := Aside0.mk (HSN.out.step hq_q3)
    have HG3 := Aside0.mk (grown_trans' HGR.out hq_q3)
    have hy2 := pw_cell_below hq_q3 y2
    clear y0 y1 y2 f1 f2 yO0 yO1 hq_q3
    have hb255 := bits255 HS5.out.1 HS5.out.2
    have hw255 : IntKind.i64.wrap (Go.bits .and .u64 (S5 / 1099511627776) 255) = Go.bits .and .u64 (S5 / 1099511627776) 255 := by rw [IntKind.wrap_i64]; omega
    go_wp2
    go_ret
    exact ⟨_, at_ + 1, rfl, hb255, by omega, HS3.out, HG3.out⟩
theorem Drew.weaken {w0 w w' : World} {g : Nat} {A : Option Addr} {c : Nat} {Cd : List Int} {at_ d d' : Nat} {lo hi lo' hi' : Int} {e : Ending} (h : Drew w0 w g A c Cd at_ d lo hi e w') (h1 : lo' ≤ lo) (h2 : hi ≤ hi') (h3 : d ≤ d') : Drew w0 w g A c Cd at_ d' lo' hi' e w' := by
  obtain ⟨r, a', he, hr, ha, hs, hg⟩ := h
  exact ⟨r, a', he, ⟨by omega, by omega⟩, by omega, hs, hg⟩
set_option maxHeartbeats 4000000 in
theorem pick_c {w0 : World} {g : Nat} {A : Option Addr} {c : Nat} {Cd : List Int} {at_ : Nat} (hat : at_ ≤ 999000) (n : Int) (hn0 : 0 ≤ n) (hn : n ≤ 10000) (w : World) (hs : Src w0 w g A c Cd at_) :
    Calls Tryz.prog 45 #[.pointer (some ⟨g, 0, none⟩), .int .i64 n] w (Drew w0 w g A c Cd at_ 2 0 (if n ≤ 1 then 0 else n - 1)) := by
  have HS := Aside0.mk hs
  by_cases h1 : n ≤ 1
  · rw [if_pos h1]
    clear hs
    go_enter Tryz.func45, Tryz.ntmps45
    go_wp2
    go_ret
    exact ⟨0, at_, rfl, by omega, by omega, HS.out, World.grownBy.refl _ _⟩
  · rw [if_neg h1]
    have HN := Aside0.mk (next_c (w0 := w0) (g := g) (A := A) (c := c) (Cd := Cd) (by omega) w hs)
    clear hs
    by_cases h2 : 200 < n
    · go_enter Tryz.func45, Tryz.ntmps45
      go_wp2_with fail
      refine HN.out.mono ?_; rintro _ w1 ⟨x, a1, rfl, hx, ha1, hs1, hg1⟩
      have HG1 := Aside0.mk hg1
      have HN2 := Aside0.mk (next_c (w0 := w0) (g := g) (A := A) (c := c) (Cd := Cd) (by omega) w1 hs1)
      obtain ⟨x0, x1⟩ := hx
      have hw1 : IntKind.i64.wrap (x * 256) = x * 256 := by rw [IntKind.wrap_i64]; omega
      clear hs1 hg1
      go_wp2_with fail
      refine HN2.out.mono ?_; rintro _ w2 ⟨y, a2, rfl, hy, ha2, hs2, hg2⟩
      obtain ⟨z0, z1⟩ := hy
      have HS2 := Aside0.mk hs2
      have HG2 := Aside0.mk (World.grownBy.trans HG1.out hg2)
      have hw2 : IntKind.i64.wrap (x * 256 + y) = x * 256 + y := by rw [IntKind.wrap_i64]; omega
      have e2 := Int.emod_nonneg (x * 256 + y) (b := n) (by omega)
      have e3 := Int.emod_lt_of_pos (x * 256 + y) (b := n) (by omega)
      have hn1 : ¬ (n = 0) := by omega
      clear hs2 hg2
      go_wp2
      go_ret
      exact ⟨_, a2, rfl, ⟨by omega, by omega⟩, by omega, HS2.out, HG2.out⟩
    · go_enter Tryz.func45, Tryz.ntmps45
      go_wp2_with fail
      refine HN.out.mono ?_; rintro _ w1 ⟨x, a1, rfl, hx, ha1, hs1, hg1⟩
      have HG1 := Aside0.mk hg1
      have HS1 := Aside0.mk hs1
      obtain ⟨x0, x1⟩ := hx
      have e2 := Int.emod_nonneg x (b := n) (by omega)
      have e3 := Int.emod_lt_of_pos x (b := n) (by omega)
      have hn1 : ¬ (n = 0) := by omega
      clear hs1 hg1
      go_wp2
      go_ret
      exact ⟨_, a1, rfl, ⟨by omega, by omega⟩, by omega, HS1.out, HG1.out⟩
/-- Once in n times. -/
def DrewB (w0 w : World) (g : Nat) (A : Option Addr) (c : Nat) (Cd : List Int) (at_ d : Nat) (e : Ending) (w' : World) : Prop :=
  ∃ (b : Bool) (a' : Nat), e = .returned (.bool b) ∧ a' ≤ at_ + d ∧ Src w0 w' g A c Cd a' ∧ w.grownBy w' (some g)
set_option maxHeartbeats 2000000 in
theorem one_c {w0 : World} {g : Nat} {A : Option Addr} {c : Nat} {Cd : List Int} {at_ : Nat} (hat : at_ ≤ 999000) (w : World) (hs : Src w0 w g A c Cd at_) :
    Calls Tryz.prog 56 #[.pointer (some ⟨g, 0, none⟩), .int .i64 2] w (DrewB w0 w g A c Cd at_ 2) := by
  have HP := Aside0.mk (pick_c (w0 := w0) (g := g) (A := A) (c := c) (Cd := Cd) hat 2 (by omega) (by omega) w hs)
  clear hs
  go_enter Tryz.func56, Tryz.ntmps56
  go_wp2_with fail
  refine HP.out.mono ?_; rintro _ w1 ⟨x, a1, rfl, hx, ha1, hs1, hg1⟩
  have HG1 := Aside0.mk hg1
  have HS1 := Aside0.mk hs1
  clear hs1 hg1 hx
  go_wp2
  go_ret
  exact ⟨_, a1, rfl, ha1, HS1.out, HG1.out⟩
/-- One of some numbers. -/
def DrewIn (w0 w : World) (g : Nat) (A : Option Addr) (c : Nat) (Cd : List Int) (at_ d : Nat) (L : List Int) (e : Ending) (w' : World) : Prop :=
  ∃ (r : Int) (a' : Nat), e = .returned (.int .i64 r) ∧ r ∈ L ∧ a' ≤ at_ + d ∧ Src w0 w' g A c Cd a' ∧ w.grownBy w' (some g)
/-- A valid book was drawn. -/
def DrewBk (w0 w : World) (g : Nat) (A : Option Addr) (c : Nat) (Cd : List Int) (at_ d : Nat) (e : Ending) (w' : World) : Prop :=
  ∃ (b : Bk) (a' : Nat), e = .returned b.val ∧ vBook b = true ∧ b.ok ∧ a' ≤ at_ + d ∧ Src w0 w' g A c Cd a' ∧ w.grownBy w' (some g)
theorem blk_grown {w w' : World} {r : Option Nat} {p : Nat} {o : Obj} (h : w.heap[p]? = some o) (hg : w.grownBy w' r) (hne : some p ≠ r) : w'.heap[p]? = some o :=
  (hg.block p (Array.getElem?_eq_some_iff.1 h).1 hne).trans h
theorem grown_set (w : World) (p i : Nat) (v : Value) : w.grownBy (w.setCell ⟨p, i, none⟩ v) (some p) :=
  ⟨rfl, rfl, rfl, by simp, fun k _ hk => Below.heap_setCell w ⟨p, i, none⟩ _ k (fun e => hk (by rw [e]))⟩
theorem grown_new {w w1 : World} {r : Option Nat} (h : w.grownBy w1 r) {p : Nat} (hp : w.heap.size ≤ p) (i : Nat) (v : Value) : w.grownBy (w1.setCell ⟨p, i, none⟩ v) r :=
  ⟨h.os, h.tape, h.output, by have := h.size; simpa using this, fun k hk hne => (Below.heap_setCell w1 ⟨p, i, none⟩ _ k (show k ≠ p by omega)).trans (h.block k hk hne)⟩
/-- A result's block and a block in the making, with a source. -/
structure OneS (w0 w : World) (g : Nat) (A : Option Addr) (c : Nat) (Cd : List Int) (t : TypeId) (R : Nat) (cr : Array Value) (P : Nat) (cs : Array Value) (at_ : Nat) (W : World) : Prop where
  src : Src w0 W g A c Cd at_
  gr : w.grownBy W (some g)
  r : W.heap[R]? = some (.cells cr t (0, 0))
  p : W.heap[P]? = some (.cells cs t (0, 0))
  gR : g < R
  gP : g < P
  rP : R < P
  wP : w.heap.size ≤ R
theorem OneS.pick {w0 w W W' : World} {g : Nat} {A : Option Addr} {c : Nat} {Cd : List Int} {t : TypeId} {R P : Nat} {cr cs : Array Value} {at_ a' : Nat} (h : OneS w0 w g A c Cd t R cr P cs at_ W) (hs : Src w0 W' g A c Cd a') (hg : W.grownBy W' (some g)) : OneS w0 w g A c Cd t R cr P cs a' W' :=
  ⟨hs, World.grownBy.trans h.gr hg, blk_grown h.r hg (fun e => by have := h.gR; have := Option.some.inj e; omega), blk_grown h.p hg (fun e => by have := h.gP; have := Option.some.inj e; omega), h.gR, h.gP, h.rP, h.wP⟩
theorem OneS.put {w0 w W : World} {g : Nat} {A : Option Addr} {c : Nat} {Cd : List Int} {t : TypeId} {R P : Nat} {cr cs : Array Value} {at_ : Nat} (h : OneS w0 w g A c Cd t R cr P cs at_ W) (i : Nat) (v : Value) {cs' : Array Value} (e : cs.setIfInBounds i v = cs') : OneS w0 w g A c Cd t R cr P cs' at_ (W.setCell ⟨P, i, none⟩ v) :=
  ⟨h.src.grown (grown_set W P i v) (fun b e => by cases e; exact h.gP), grown_new h.gr (by have := h.wP; have := h.rP; omega) i v, (Below.heap_setCell W ⟨P, i, none⟩ _ R (by have := h.rP; show R ≠ P; omega)).trans h.r, blk_put h.p i v e, h.gR, h.gP, h.rP, h.wP⟩
theorem OneS.putR {w0 w W : World} {g : Nat} {A : Option Addr} {c : Nat} {Cd : List Int} {t : TypeId} {R P : Nat} {cr cs : Array Value} {at_ : Nat} (h : OneS w0 w g A c Cd t R cr P cs at_ W) (i : Nat) (v : Value) {cr' : Array Value} (e : cr.setIfInBounds i v = cr') : OneS w0 w g A c Cd t R cr' P cs at_ (W.setCell ⟨R, i, none⟩ v) :=
  ⟨h.src.grown (grown_set W R i v) (fun b e => by cases e; exact h.gR), grown_new h.gr h.wP i v, blk_put h.r i v e, (Below.heap_setCell W ⟨R, i, none⟩ _ P (by have := h.rP; show P ≠ R; omega)).trans h.p, h.gR, h.gP, h.rP, h.wP⟩
theorem OneS.step {w0 w W W' : World} {g : Nat} {A : Option Addr} {c : Nat} {Cd : List Int} {t : TypeId} {R P : Nat} {cr cs : Array Value} {at_ : Nat} (h : OneS w0 w g A c Cd t R cr P cs at_ W) (hb : Below W.heap.size W W') : OneS w0 w g A c Cd t R cr P cs at_ W' :=
  ⟨h.src.step hb, grown_trans' h.gr hb, blk_below h.r hb, blk_below h.p hb, h.gR, h.gP, h.rP, h.wP⟩
theorem cells8 {W : World} {P : Nat} {a b c d e f g h : Value} {t : TypeId} (hp : W.heap[P]? = some (.cells #[a, b, c, d, e, f, g, h] t (0, 0))) :
    (W.cell? ⟨P, 0, none⟩ = some a ∧ W.cell? ⟨P, 1, none⟩ = some b ∧ W.cell? ⟨P, 2, none⟩ = some c ∧ W.cell? ⟨P, 3, none⟩ = some d ∧ W.cell? ⟨P, 4, none⟩ = some e ∧ W.cell? ⟨P, 5, none⟩ = some f ∧ W.cell? ⟨P, 6, none⟩ = some g ∧ W.cell? ⟨P, 7, none⟩ = some h) ∧ ∀ i, W.frozen? ⟨P, i, none⟩ = false :=
  ⟨⟨(blk_cell hp 0).trans rfl, (blk_cell hp 1).trans rfl, (blk_cell hp 2).trans rfl, (blk_cell hp 3).trans rfl, (blk_cell hp 4).trans rfl, (blk_cell hp 5).trans rfl, (blk_cell hp 6).trans rfl, (blk_cell hp 7).trans rfl⟩, blk_frozen hp⟩
theorem mark_put {w0 w W : World} {g : Nat} {A : Option Addr} {c : Nat} {Cd : List Int} {t : TypeId} {R P : Nat} {cr : Array Value} {a m0 m1 m2 v x y z : Value} {at_ : Nat} (h : OneS w0 w g A c Cd t R cr P #[a, m0, m1, m2, v, x, y, z] at_ W) {i : Nat} (hi : i < 3) (u : Value) :
    ∃ n0 n1 n2, (n0 = m0 ∨ n0 = u) ∧ (n1 = m1 ∨ n1 = u) ∧ (n2 = m2 ∨ n2 = u) ∧ OneS w0 w g A c Cd t R cr P #[a, n0, n1, n2, v, x, y, z] at_ (W.setCell ⟨P, 1 + i, none⟩ u) := by
  match i, hi with
  | 0, _ => exact ⟨_, _, _, .inr rfl, .inl rfl, .inl rfl, h.put 1 u rfl⟩
  | 1, _ => exact ⟨_, _, _, .inl rfl, .inr rfl, .inl rfl, h.put 2 u rfl⟩
  | 2, _ => exact ⟨_, _, _, .inl rfl, .inl rfl, .inr rfl, h.put 3 u rfl⟩
set_option maxHeartbeats 8000000 in
theorem l01One_c {w0 : World} {g : Nat} {A : Option Addr} {c : Nat} {Cd : List Int} {at_ : Nat} (hat : at_ ≤ 900000) (w : World) (hs : Src w0 w g A c Cd at_) :
    Calls Tryz.prog 27 #[.pointer (some ⟨g, 0, none⟩)] w (DrewBk w0 w g A c Cd at_ 14) := by
  have hgl := hs.lt
  obtain ⟨zb, hzb⟩ : ∃ z : Array Value, #[.int .i16 0, .int .u8 0, .int .u8 0, .int .u8 0, .int .i16 0, .int .i16 0, .int .i16 0, .int .i16 0] = z := ⟨_, rfl⟩
  have HZB := Aside0.mk hzb
  have HS0 := Aside0.mk (fun W (e : w.alloc (.cells zb 30) = W) => (show Src w0 W g A c Cd at_ ∧ W.heap[w.heap.size]? = some (.cells zb 30 (0, 0)) ∧ w.grownBy W (some g) ∧ W.heap.size = w.heap.size + 1 from by subst e; exact ⟨hs.step (balloc (Below.refl _ _) _), blk_new w _, grown_of_below (balloc (Below.refl w.heap.size w) _) (some g), by simp⟩))
  clear hs
  go_enter Tryz.func27, Tryz.ntmps27
  go_wp2_with fail
  clear hzb
  generalize hW1 : w.alloc (.cells zb 30) = W1
  obtain ⟨hs1, hr1, hg1, hz1⟩ := HS0.out W1 hW1
  clear hW1 HS0
  refine (pick_c (by omega) 8 (by omega) (by omega) _ hs1).mono ?_; rintro _ w2 ⟨x1, a1, rfl, hx1, ha1, hs2, hg2⟩
  have HR2 := Aside0.mk (blk_grown hr1 hg2 (fun e => by have := Option.some.inj e; omega))
  have HG2 := Aside0.mk (World.grownBy.trans hg1 hg2)
  have hz2 := hg2.size
  have HS2 := Aside0.mk hs2
  obtain ⟨p0, p1⟩ := hx1
  have hw1 : IntKind.i64.wrap (x1 * 100) = x1 * 100 := by rw [IntKind.wrap_i64]; omega
  have hw2 : IntKind.i16.wrap (x1 * 100) = x1 * 100 := by simp only [IntKind.wrap, IntKind.bits, IntKind.signed]; simp; omega
  clear hs1 hr1 hg1 hs2 hg2
  go_wp2_with fail
  refine (pick_c (by omega) 3 (by omega) (by omega) _ HS2.out).mono ?_; rintro _ w3 ⟨x2, a2, rfl, hx2, ha2, hs3, hg3⟩
  have hr3 := blk_grown HR2.out hg3 (fun e => by have := Option.some.inj e; omega)
  have hG3 := World.grownBy.trans HG2.out hg3
  have hz3 := hg3.size
  obtain ⟨q0, q1⟩ := hx2
  have hw3 : IntKind.i64.wrap (1 + x2) = 1 + x2 := by rw [IntKind.wrap_i64]; omega
  have hw4 : IntKind.i16.wrap (1 + x2) = 1 + x2 := by simp only [IntKind.wrap, IntKind.bits, IntKind.signed]; simp; omega
  have HO3 := Aside0.mk (show OneS w0 w g A c Cd 30 w.heap.size zb w3.heap.size #[.int .i16 (x1 * 100), .int .u8 0, .int .u8 0, .int .u8 0, .int .i16 (1 + x2), .int .i16 0, .int .i16 0, .int .i16 0] a2 (w3.alloc (.cells #[.int .i16 (x1 * 100), .int .u8 0, .int .u8 0, .int .u8 0, .int .i16 (1 + x2), .int .i16 0, .int .i16 0, .int .i16 0] 30)) from
    ⟨hs3.step (balloc (Below.refl _ _) _), grown_trans' hG3 (balloc (Below.refl _ _) _), blk_alloc hr3 _, blk_new w3 _, by omega, by omega, by omega, Nat.le_refl _⟩)
  clear hs3 hg3 hr3 hG3 HR2 HG2 HS2
  go_wp2_with fail
  generalize hP : w3.heap.size = P at HO3 ⊢
  generalize World.alloc w3 _ = w4 at HO3 ⊢
  clear hP hz1 hz2 hz3
  obtain ⟨⟨c0, c1, c2, c3, c4, c5, c6, c7⟩, fz⟩ := cells8 HO3.out.p
  have HO4 := Aside0.mk (((HO3.out.put 1 (.int .u8 97) rfl).put 2 (.int .u8 97) rfl).put 3 (.int .u8 97) rfl)
  refine wp_loop_rounds 4 ?_
  iterate 4 (rw [rounds_succ]; go_wp2_with fail)
  clear c0 c1 c2 c3 c4 c5 c6 c7 fz
  generalize World.setCell (World.setCell (World.setCell _ _ _) _ _) _ _ = w5 at HO4 ⊢
  refine (pick_c (by omega) 3 (by omega) (by omega) _ HO4.out.src).mono ?_; rintro _ w6 ⟨x3, a3, rfl, hx3, ha3, hs6, hg6⟩
  have HO6 := Aside0.mk (HO4.out.pick hs6 hg6)
  obtain ⟨r0, r1⟩ := hx3
  clear hs6 hg6
  go_wp2_with fail
  refine (pick_c (by omega) 3 (by omega) (by omega) _ HO6.out.src).mono ?_; rintro _ w7 ⟨x4, a4, rfl, hx4, ha4, hs7, hg7⟩
  have HO7 := Aside0.mk (HO6.out.pick hs7 hg7)
  obtain ⟨i, rfl⟩ := Int.eq_ofNat_of_zero_le r0
  obtain ⟨t0, t1⟩ := hx4
  have hw5 : IntKind.i64.wrap (97 + x4) = 97 + x4 := by rw [IntKind.wrap_i64]; omega
  have hw6 : IntKind.u8.wrap (97 + x4) = 97 + x4 := by rw [IntKind.wrap_u8]; omega
  have hi3 : i < 3 := by simp at r1; omega
  obtain ⟨m0, m1, m2, hm0, hm1, hm2, hO8⟩ := mark_put HO7.out hi3 (.int .u8 (97 + x4))
  have HO8 := Aside0.mk hO8
  have fi := blk_frozen HO7.out.p (1 + i)
  have ci : w7.cell? ⟨P, 1 + i, none⟩ = some (.int .u8 97) := by
    refine (blk_cell HO7.out.p (1 + i)).trans ?_
    match i, hi3 with
    | 0, _ => rfl
    | 1, _ => rfl
    | 2, _ => rfl
  have i0 : (0 : Int) ≤ (i : Int) := by omega
  have i1 : (i : Int) < 3 := by omega
  clear hs7 hg7 hO8 r0 r1
  go_wp2_with fail
  clear fi ci
  generalize World.setCell w7 _ _ = w8 at HO8 ⊢
  obtain ⟨y0, rfl, hy0⟩ : ∃ y, m0 = .int .u8 y ∧ 97 ≤ y ∧ y ≤ 99 := by rcases hm0 with h | h; exact ⟨97, h, by omega, by omega⟩; exact ⟨97 + x4, h, by omega, by omega⟩
  obtain ⟨y1, rfl, hy1⟩ : ∃ y, m1 = .int .u8 y ∧ 97 ≤ y ∧ y ≤ 99 := by rcases hm1 with h | h; exact ⟨97, h, by omega, by omega⟩; exact ⟨97 + x4, h, by omega, by omega⟩
  obtain ⟨y2, rfl, hy2⟩ : ∃ y, m2 = .int .u8 y ∧ 97 ≤ y ∧ y ≤ 99 := by rcases hm2 with h | h; exact ⟨97, h, by omega, by omega⟩; exact ⟨97 + x4, h, by omega, by omega⟩
  clear hm0 hm1 hm2 hw5 hw6
  refine (pick_c (by omega) 9 (by omega) (by omega) _ HO8.out.src).mono ?_; rintro _ w9 ⟨x5, a5, rfl, hx5, ha5, hs9, hg9⟩
  have HO9 := Aside0.mk (HO8.out.pick hs9 hg9)
  obtain ⟨u0, u1⟩ := hx5
  have hv1 : IntKind.i64.wrap (5 * x5) = 5 * x5 := by rw [IntKind.wrap_i64]; omega
  have hv2 : IntKind.i64.wrap (10 + 5 * x5) = 10 + 5 * x5 := by rw [IntKind.wrap_i64]; omega
  have hv3 : IntKind.i16.wrap (10 + 5 * x5) = 10 + 5 * x5 := by simp only [IntKind.wrap, IntKind.bits, IntKind.signed]; simp; omega
  have HO10 := Aside0.mk (HO9.out.put 5 (.int .i16 (10 + 5 * x5)) rfl)
  obtain ⟨⟨c0, c1, c2, c3, c4, c5, c6, c7⟩, fz⟩ := cells8 HO9.out.p
  clear hs9 hg9
  go_wp2_with fail
  clear c0 c1 c2 c3 c4 c5 c6 c7 fz hv1 hv2 hv3
  generalize World.setCell w9 _ _ = w10 at HO10 ⊢
  refine (pick_c (by omega) 12 (by omega) (by omega) _ HO10.out.src).mono ?_; rintro _ w11 ⟨x6, a6, rfl, hx6, ha6, hs11, hg11⟩
  have HO11 := Aside0.mk (HO10.out.pick hs11 hg11)
  obtain ⟨v0, v1⟩ := hx6
  have hv1 : IntKind.i64.wrap (10 * x6) = 10 * x6 := by rw [IntKind.wrap_i64]; omega
  have hv2 : IntKind.i64.wrap (180 + 10 * x6) = 180 + 10 * x6 := by rw [IntKind.wrap_i64]; omega
  have hv3 : IntKind.i16.wrap (180 + 10 * x6) = 180 + 10 * x6 := by simp only [IntKind.wrap, IntKind.bits, IntKind.signed]; simp; omega
  have HO12 := Aside0.mk (HO11.out.put 6 (.int .i16 (180 + 10 * x6)) rfl)
  obtain ⟨⟨c0, c1, c2, c3, c4, c5, c6, c7⟩, fz⟩ := cells8 HO11.out.p
  clear hs11 hg11
  go_wp2_with fail
  clear c0 c1 c2 c3 c4 c5 c6 c7 fz hv1 hv2 hv3
  generalize World.setCell w11 _ _ = w12 at HO12 ⊢
  refine (pick_c (by omega) 20 (by omega) (by omega) _ HO12.out.src).mono ?_; rintro _ w13 ⟨x7, a7, rfl, hx7, ha7, hs13, hg13⟩
  have HO13 := Aside0.mk (HO12.out.pick hs13 hg13)
  obtain ⟨s0, s1⟩ := hx7
  have hv1 : IntKind.i64.wrap (1 + x7) = 1 + x7 := by rw [IntKind.wrap_i64]; omega
  have hv2 : IntKind.i64.wrap ((1 + x7) * 100) = (1 + x7) * 100 := by rw [IntKind.wrap_i64]; omega
  have hv2' : IntKind.i64.wrap (100 * (1 + x7)) = 100 * (1 + x7) := by rw [IntKind.wrap_i64]; omega
  have hv3 : IntKind.i16.wrap (100 * (1 + x7)) = 100 * (1 + x7) := by simp only [IntKind.wrap, IntKind.bits, IntKind.signed]; simp; omega
  have HO14 := Aside0.mk (HO13.out.put 7 (.int .i16 (100 * (1 + x7))) rfl)
  obtain ⟨⟨c0, c1, c2, c3, c4, c5, c6, c7⟩, fz⟩ := cells8 HO13.out.p
  obtain ⟨⟨d0, d1, d2, d3, d4, d5, d6, d7⟩, dz⟩ := cells8 HO14.out.p
  have hr14 := HO14.out.r
  rw [← HZB.out] at hr14
  obtain ⟨⟨e0, e1, e2, e3, e4, e5, e6, e7⟩, ez⟩ := cells8 hr14
  have HO15 := Aside0.mk ((((((((HO14.out.putR 0 (.int .i16 (x1 * 100)) rfl).putR 1 (.int .u8 y0) rfl).putR 2 (.int .u8 y1) rfl).putR 3 (.int .u8 y2) rfl).putR 4 (.int .i16 (1 + x2)) rfl).putR 5 (.int .i16 (10 + 5 * x5)) rfl).putR 6 (.int .i16 (180 + 10 * x6)) rfl).putR 7 (.int .i16 (100 * (1 + x7))) rfl)
  clear hs13 hg13 hr14
  go_wp2_with fail
  clear c0 c1 c2 c3 c4 c5 c6 c7 fz d0 d1 d2 d3 d4 d5 d6 d7 dz e0 e1 e2 e3 e4 e5 e6 e7 ez hv1 hv2 hv2' hv3
  generalize World.setCell (World.setCell (World.setCell (World.setCell (World.setCell (World.setCell (World.setCell (World.setCell (World.setCell w13 _ _) _ _) _ _) _ _) _ _) _ _) _ _) _ _) _ _ = w15 at HO15 ⊢
  have hr15 := HO15.out.r
  rw [← HZB.out] at hr15
  obtain ⟨⟨e0, e1, e2, e3, e4, e5, e6, e7⟩, ez⟩ := cells8 hr15
  have hvb : vBook ⟨x1 * 100, y0, y1, y2, 1 + x2, 10 + 5 * x5, 180 + 10 * x6, 100 * (1 + x7)⟩ = true := by
    unfold vBook vMark
    simp only [Bool.and_eq_true, inR_iff]
    omega
  have hok : (⟨x1 * 100, y0, y1, y2, 1 + x2, 10 + 5 * x5, 180 + 10 * x6, 100 * (1 + x7)⟩ : Bk).ok := by
    unfold Bk.ok I16 U8
    simp only
    omega
  exact bodyPost_ret (v := (⟨x1 * 100, y0, y1, y2, 1 + x2, 10 + 5 * x5, 180 + 10 * x6, 100 * (1 + x7)⟩ : Bk).val) (by simp [results, Tryz.results27, go_sem, e0, e1, e2, e3, e4, e5, e6, e7, Bk.val]) rfl ⟨_, a7, rfl, hvb, hok, by omega, HO15.out.src, HO15.out.gr⟩
def VB (L : List Bk) : Prop := ∀ b, b ∈ L → vBook b = true ∧ b.ok
theorem usualL_ordZ : OrdOk usualL := by
  intro x hx
  refine ⟨usualL_ok x hx, ?_⟩
  simp only [usualL, List.mem_cons, List.not_mem_nil, or_false] at hx
  omega
theorem bk_keep {w w' : World} {base g : Nat} {v : Value} {L : List Bk} (h : kBk.R 30 w base (fun _ => True) v L) (hg : w.grownBy w' (some g)) (hb : g < base) : kBk.R 30 w' base (fun _ => True) v L :=
  Kd.R_mono (Kd.R_grown (Kd.R_tight kBk_E h) hg (fun k hk he => by have := Kd.R_base h k hk.symm; have := Option.some.inj he; omega)) (fun _ _ => trivial)
theorem grown_in {w w1 w2 : World} {r q : Option Nat} (h : w.grownBy w1 r) (hg : w1.grownBy w2 q) (hq : ∀ b, q = some b → w.heap.size ≤ b) : w.grownBy w2 r :=
  ⟨hg.os.trans h.os, hg.tape.trans h.tape, hg.output.trans h.output, Nat.le_trans h.size hg.size, fun k hk hne => (hg.block k (Nat.lt_of_lt_of_le hk h.size) (fun e => by have := hq k e.symm; omega)).trans (h.block k hk hne)⟩
section
variable {ops : Array Oper} {rest : List Oper} {o : Oper} {a : Act} {Q : Exit → Act → World → Prop}
theorem bk_app {W : World} (base : Nat) (hbase : base ≤ W.heap.size) (hgd : o.guard = none) (s x : Operand) (ho : o.op = .call { callee := .builtin .append, args := #[s, x], argTypes := #[24, 24] }) (v : Value) (xs : List Bk) (b : Bk)
    (hs : a.eval s = v) (hx : a.eval x = .slice (some ⟨W.heap.size, 0, none⟩) 1 1) (HO : kBk.R 30 W base (fun _ => True) v xs) (hl : xs.length ≤ 2097152)
    (h : ∀ v1 w1, kBk.R 30 w1 base (fun _ => True) v1 (xs ++ [b]) → W.grownBy w1 v.ownBlock → wpList Tryz.prog ops Q rest (a.put o.dst v1) w1) :
    wpList Tryz.prog ops Q (o :: rest) a (W.alloc (.cells (Bk.cells b).toArray 30)) :=
  Kd.R_append kBk (w0 := W) base hgd s x 24 30 (.agg #[.int .i16 0, .int .u8 0, .int .u8 0, .int .u8 0, .int .i16 0, .int .i16 0, .int .i16 0, .int .i16 0]) 14 ho Tryz.underlying24 info_bk rfl (by decide) (by decide) v xs b (Bk.cells b) (fun _ => True) (fun _ => False) hs hx rfl (fun _ h => h.elim) (fun _ _ => trivial) HO (Below.refl _ _) hbase (by omega)
    (fun v1 w1 h1 h2 h3 _ => h v1 w1 h1 h3)
end
/-- A row of valid books since w, with a source. -/
structure RowS (w0 w : World) (g : Nat) (A : Option Addr) (c : Nat) (Cd : List Int) (v : Value) (L : List Bk) (at_ : Nat) (W : World) : Prop where
  src : Src w0 W g A c Cd at_
  gr : w.grownBy W (some g)
  row : kBk.R 30 W w.heap.size (fun _ => True) v L
  ok : VB L
  gw : g < w.heap.size
section
variable {w0 w W W' : World} {g : Nat} {A : Option Addr} {c : Nat} {Cd : List Int} {v v' : Value} {L L' : List Bk} {at_ a' : Nat}
theorem RowS.pick (h : RowS w0 w g A c Cd v L at_ W) (hs : Src w0 W' g A c Cd a') (hg : W.grownBy W' (some g)) : RowS w0 w g A c Cd v L a' W' :=
  ⟨hs, World.grownBy.trans h.gr hg, bk_keep h.row hg h.gw, h.ok, h.gw⟩
theorem RowS.step (h : RowS w0 w g A c Cd v L at_ W) (hb : Below W.heap.size W W') : RowS w0 w g A c Cd v L at_ W' :=
  ⟨h.src.step hb, grown_trans' h.gr hb, Kd.R_below h.row hb, h.ok, h.gw⟩
/-- The row was written, or laid anew. -/
theorem RowS.wrote (h : RowS w0 w g A c Cd v L at_ W) (hr : kBk.R 30 W' w.heap.size (fun _ => True) v' L') (ho : VB L') (hg : W.grownBy W' v.ownBlock) : RowS w0 w g A c Cd v' L' at_ W' := by
  have hb := Kd.R_base h.row
  have hgw := h.gw
  exact ⟨h.src.grown hg (fun b e => by have := hb b e; omega), grown_in h.gr hg hb, hr, ho, hgw⟩
end
theorem VB.snoc {L : List Bk} {b : Bk} (h : VB L) (h1 : vBook b = true) (h2 : b.ok) : VB (L ++ [b]) := fun x hx => by
  rcases List.mem_append.1 hx with hx | hx
  · exact h x hx
  · rw [List.mem_singleton.1 hx]; exact ⟨h1, h2⟩
theorem VB.set {L : List Bk} {b : Bk} {i : Nat} (h : VB L) (hb : b ∈ L) : VB (L.set i b) := fun x hx => by
  rcases List.mem_or_eq_of_mem_set hx with hx | rfl
  · exact h x hx
  · exact h _ hb
theorem VB.set' {L M : List Bk} {b : Bk} {i : Nat} (h : VB L) (hb : b ∈ M) (hM : VB M) : VB (L.set i b) := fun x hx => by
  rcases List.mem_or_eq_of_mem_set hx with hx | rfl
  · exact h x hx
  · exact hM _ hb
theorem bkAt_grown {w w' : World} {p : Addr} {b : Bk} {r : Option Nat} (h : BkAt w p b) (hg : w.grownBy w' r) (hne : ∀ k, r = some k → p.block ≠ k) : BkAt w' p b := by
  obtain ⟨c0, c1, c2, c3, c4, c5, c6, c7⟩ := h
  have hb : w'.heap[p.block]? = w.heap[p.block]? := hg.block p.block (World.block_lt_of_cell? w p c0) (fun e => hne p.block e.symm rfl)
  exact ⟨(World.cell?_of_block (w := w) (a := p) hb).trans c0, (World.cell?_of_block (w := w) (a := ⟨p.block, p.off + 1, none⟩) hb).trans c1, (World.cell?_of_block (w := w) (a := ⟨p.block, p.off + 2, none⟩) hb).trans c2, (World.cell?_of_block (w := w) (a := ⟨p.block, p.off + 3, none⟩) hb).trans c3, (World.cell?_of_block (w := w) (a := ⟨p.block, p.off + 4, none⟩) hb).trans c4, (World.cell?_of_block (w := w) (a := ⟨p.block, p.off + 5, none⟩) hb).trans c5, (World.cell?_of_block (w := w) (a := ⟨p.block, p.off + 6, none⟩) hb).trans c6, (World.cell?_of_block (w := w) (a := ⟨p.block, p.off + 7, none⟩) hb).trans c7⟩
def DrewL (w0 w : World) (g : Nat) (A : Option Addr) (c : Nat) (Cd : List Int) (e : Ending) (w' : World) : Prop :=
  ∃ v L a', e = .returned v ∧ L.length ≤ 11 ∧ RowS w0 w g A c Cd v L a' w'
set_option maxHeartbeats 8000000 in
theorem l01Drawn_c {w0 : World} {g : Nat} {A : Option Addr} {c : Nat} {Cd : List Int} {at_ : Nat} (hat : at_ ≤ 1000) (w : World) (hs : Src w0 w g A c Cd at_) :
    Calls Tryz.prog 25 #[.pointer (some ⟨g, 0, none⟩)] w (DrewL w0 w g A c Cd) := by
  have hgl := hs.lt
  have HR0 := Aside0.mk (show RowS w0 w g A c Cd (.slice (some ⟨w.heap.size, 0, none⟩) 0 0) [] at_ (w.alloc (.cells #[] 30)) from
    ⟨hs.step (balloc (Below.refl _ _) _), grown_of_below (balloc (Below.refl w.heap.size w) _) (some g), R_zero _ _ _ _ _ (Nat.le_refl _) trivial, (fun b hb => by cases hb), hgl⟩)
  clear hs
  go_enter Tryz.func25, Tryz.ntmps25
  go_wp2_with fail
  refine (pick_c (by omega) 12 (by omega) (by omega) _ HR0.out.src).mono ?_; rintro _ w1 ⟨x1, a1, rfl, hx1, ha1, hs1, hg1⟩
  have HR1 := Aside0.mk (HR0.out.pick hs1 hg1)
  obtain ⟨k, rfl⟩ := Int.eq_ofNat_of_zero_le hx1.1
  have hk12 : k ≤ 11 := by have := hx1.2; simp at this; omega
  clear hs1 hg1 hx1 HR0
  go_wp2_with fail
  go_loopg [3, 4] k (fun gk v3 v4 wr => ∃ (L : List Bk) (a2 : Nat), v4 = .int .i64 gk ∧ Aside0 (L.length + gk ≤ 11 ∧ a2 + 14 * gk ≤ 1200) ∧ Aside0 (RowS w0 w g A c Cd v3 L a2 wr))
  case atStart => exact ⟨[], a1, rfl, ⟨by simp; omega, by omega⟩, HR1⟩
  case round =>
    clear HR1
    obtain ⟨L, a2, rfl, hlen, HR⟩ := hrel
    by_cases hk : 0 < gk
    · have hl1 := hlen.out.1
      have hl2 := hlen.out.2
      have hw1 : IntKind.i64.wrap ((gk : Int) - 1) = (gk : Int) - 1 := by rw [IntKind.wrap_i64]; omega
      go_wp2_with fail
      refine (l01One_c (by omega) _ HR.out.src).mono ?_; rintro _ w2 ⟨b, a3, rfl, hb1, hb2, ha3, hs2, hg2⟩
      have HR2 := Aside0.mk (HR.out.pick hs2 hg2)
      have HBB := Aside0.mk (And.intro hb1 hb2)
      clear hs2 hg2 hb1 hb2
      simp only [Bk.val]
      go_wp2_with (at_builtin; refine bk_app w.heap.size HR2.out.gr.size rfl (.tmp 15) (.tmp 18) rfl _ L b rfl rfl HR2.out.row (by omega) ?_; intro v1 w3 hR3 hg3; have HR3 := Aside0.mk (HR2.out.wrote hR3 (HR2.out.ok.snoc HBB.out.1 HBB.out.2) hg3); clear hR3 hg3)
      go_roundg (gk - 1)
      case measure => omega
      case rel => exact ⟨L ++ [b], a3, by first | go_num | (congr 1; omega), ⟨by rw [List.length_append]; simp; omega, by omega⟩, HR3⟩
    · have hl1 := hlen.out.1
      have hl2 := hlen.out.2
      have hk0 : ¬ ((gk : Int) > 0) := by omega
      go_wp2_with fail
      refine (one_c (by omega) _ HR.out.src).mono ?_; rintro _ w2 ⟨b1, a3, rfl, ha3, hs2, hg2⟩
      have HR2 := Aside0.mk (HR.out.pick hs2 hg2)
      clear hs2 hg2
      cases b1
      · go_wp2_with fail
        go_ret
        exact ⟨_, L, a3, rfl, by omega, HR2.out⟩
      · have hu := three_C (w2.alloc (.cells #[.int .i8 1, .int .i8 2, .int .i8 3] 57)) w2.heap.size 0 1 2 3 ((blk_cell (blk_new w2 _) 0).trans rfl) ((blk_cell (blk_new w2 _) 1).trans rfl) ((blk_cell (blk_new w2 _) 2).trans rfl)
        have HRA := Aside0.mk (HR2.out.step (balloc (Below.refl _ _) (.cells #[.int .i8 1, .int .i8 2, .int .i8 3] 57)))
        obtain ⟨A3, c3, rfl⟩ := Kd.R_slice HR2.out.row
        have HSO := Aside0.mk (l01Sorted_c (some ⟨w2.heap.size, 0, none⟩) A3 3 c3 usualL L (w2.alloc (.cells #[.int .i8 1, .int .i8 2, .int .i8 3] 57)) hu usualL_ordZ (Kd.R_reads' HRA.out.row).2.2 (fun b hb => (HR2.out.ok b hb).2) (by omega))
        have HSL := Aside0.mk (sortL_len (ltBy_wk usualL) L)
        have HSM := Aside0.mk (sortL_mem (ltBy_wk usualL) L)
        clear hu
        go_wp2_with fail
        refine HSO.out.mono ?_; rintro _ w3 ⟨v3, rfl, hb3, hv3⟩
        have HR3 := Aside0.mk (show RowS w0 w g A c Cd v3 (Srt.sortL (ltBy usualL) L) a3 w3 from ⟨HRA.out.src.step hb3, grown_trans' HRA.out.gr hb3, Kd.R_lower hv3 HRA.out.gr.size, fun b hb => HRA.out.ok b ((HSM.out b).1 hb), HRA.out.gw⟩)
        have hl3 := HSL.out
        generalize Srt.sortL (ltBy usualL) L = L3 at HR3 hl3
        clear hb3 hv3 HSO HSL HSM HR2 HRA HR
        obtain ⟨A4, c4, rfl⟩ := Kd.R_slice HR3.out.row
        have HL3 := Aside0.mk hl3
        by_cases hlen2 : 1 < L3.length
        · have d0 : decide ((1 : Int) < (L3.length : Int)) = true := decide_eq_true (by omega)
          have d0' : decide (1 < L3.length) = true := decide_eq_true hlen2
          have hl11 : L3.length ≤ 11 := by omega
          clear hl3
          go_wp2_with fail
          refine (one_c (by omega) _ HR3.out.src).mono ?_; rintro _ w4 ⟨b2, a4, rfl, ha4, hs4, hg4⟩
          have HR4 := Aside0.mk (HR3.out.pick hs4 hg4)
          clear hs4 hg4 d0 d0' HR3
          cases b2
          · go_wp2_with fail
            go_ret
            exact ⟨_, L3, a4, rfl, hl11, HR4.out⟩
          · go_wp2_with fail
            refine (pick_c (by omega) (L3.length : Int) (by omega) (by omega) _ HR4.out.src).mono ?_; rintro _ w5 ⟨xi, a5, rfl, hxi, ha5, hs5, hg5⟩
            have HR5 := Aside0.mk (HR4.out.pick hs5 hg5)
            obtain ⟨i, rfl⟩ := Int.eq_ofNat_of_zero_le hxi.1
            have hi : i < L3.length := by have := hxi.2; rw [if_neg (by omega)] at this; omega
            clear hs5 hg5 hxi HR4
            go_wp2_with fail
            refine (pick_c (by omega) (L3.length : Int) (by omega) (by omega) _ HR5.out.src).mono ?_; rintro _ w6 ⟨xk, a6, rfl, hxk, ha6, hs6, hg6⟩
            have HR6 := Aside0.mk (HR5.out.pick hs6 hg6)
            obtain ⟨q, rfl⟩ := Int.eq_ofNat_of_zero_le hxk.1
            have hq : q < L3.length := by have := hxk.2; rw [if_neg (by omega)] at this; omega
            clear hs6 hg6 hxk HR5
            obtain ⟨gg, cap, e4, hgb, _⟩ := Kd.R_form HR6.out.row (by omega)
            injection e4 with e4 e5 e6
            subst e4 e6
            clear e5
            obtain ⟨bi, hbi, r0, r1, r2, r3, r4, r5, r6, r7, _⟩ := row_at HR6.out.row hi
            obtain ⟨bq, hbq, _⟩ := row_at HR6.out.row hq
            have HRX := Aside0.mk (Kd.R_alloc HR6.out.row (.cells #[.int .i16 bi.c, .int .u8 bi.m0, .int .u8 bi.m1, .int .u8 bi.m2, .int .i16 bi.v, .int .i16 bi.wd, .int .i16 bi.h, .int .i16 bi.wt] 30))
            obtain ⟨z0, z1, z2, z3, z4, z5, z6, z7, _⟩ := row_of HRX.out hq hbq.out
            have HBX := Aside0.mk (BkAt.box w6 bi 30)
            have HMI := Aside0.mk (mem_of hbi.out)
            have HMQ := Aside0.mk (mem_of hbq.out)
            have HGB := Aside0.mk (Kd.R_lt HR6.out.row gg rfl)
            have i0 : (0 : Int) ≤ (i : Int) := by omega
            have i1 : (i : Int) < (L3.length : Int) := by omega
            have q0 : (0 : Int) ≤ (q : Int) := by omega
            have q1 : (q : Int) < (L3.length : Int) := by omega
            clear hbi hbq
            have hbw := HR6.out.gr.size
            go_wp2_with (first | (refine bk_store (w := w6.alloc (.cells #[.int .i16 bi.c, .int .u8 bi.m0, .int .u8 bi.m1, .int .u8 bi.m2, .int .i16 bi.v, .int .i16 bi.wd, .int .i16 bi.h, .int .i16 bi.wt] 30)) w.heap.size rfl rfl (.tmp 50) (.tmp 49) rfl i _ bq (fun _ => True) rfl (by omega) rfl HRX.out hi (Below.refl _ _) ?_; intro w7 hR7 hB7 hg7; have HR7 := Aside0.mk hR7; have HG7 := Aside0.mk hg7; obtain ⟨k0, k1, k2, k3, k4, k5, k6, k7⟩ := bkAt_grown HBX.out hg7 (fun k hk => by have := HGB.out; cases hk; show w6.heap.size ≠ gg; omega); clear hR7 hB7 hg7) | (refine bk_store (w := w7) w.heap.size rfl rfl (.tmp 54) (.tmp 53) rfl q _ bi (fun _ => True) rfl (by omega) rfl HR7.out hq (Below.refl _ _) ?_; intro w8 hR8 hB8 hg8; have HR8 := Aside0.mk hR8; have HG8 := Aside0.mk hg8; clear hR8 hB8 hg8))
            go_ret
            have h7 := HR6.out.step (balloc (Below.refl _ _) (.cells #[.int .i16 bi.c, .int .u8 bi.m0, .int .u8 bi.m1, .int .u8 bi.m2, .int .i16 bi.v, .int .i16 bi.wd, .int .i16 bi.h, .int .i16 bi.wt] 30))
            have h8 := h7.wrote HR7.out (h7.ok.set HMQ.out) HG7.out
            have h9 := h8.wrote HR8.out (fun b hb => (h7.ok.set (i := i) HMQ.out).set' (i := q) HMI.out h7.ok b hb) HG8.out
            exact ⟨_, _, a6, rfl, by rw [List.length_set, List.length_set]; exact hl11, h9⟩
        · have d0 : decide ((1 : Int) < (L3.length : Int)) = false := decide_eq_false (by omega)
          have d0' : decide (1 < L3.length) = false := decide_eq_false hlen2
          have hl11 : L3.length ≤ 11 := by omega
          clear hl3
          go_wp2_with fail
          go_ret
          exact ⟨_, L3, a3, rfl, hl11, HR3.out⟩
set_option maxHeartbeats 2000000 in
theorem l00From_c (A : Option Addr) (c : Nat) (Cd : List Int) (w : World) (hC : (Kd.int .u8).C w A Cd.length Cd) (hU : ∀ x, x ∈ Cd → 0 ≤ x ∧ x ≤ 255) :
    Calls Tryz.prog 26 #[.slice A Cd.length c] w (fun e w' => e = .returned (.pointer (some ⟨w.heap.size, 0, none⟩)) ∧ Src w w' w.heap.size A c Cd 0 ∧ w'.heap.size = w.heap.size + 1) := by
  have HS := Aside0.mk (show Src w (w.alloc (.cells #[.slice A Cd.length c, .int .i64 0, .int .u64 0] 86)) w.heap.size A c Cd 0 from ⟨balloc (Below.refl _ _) _, Nat.le_refl _, hC, hU, 0, blk_new w _, by omega, by omega⟩)
  clear hC hU
  go_enter Tryz.func26, Tryz.ntmps26
  go_wp2
  go_ret
  exact ⟨rfl, HS.out, by simp⟩
end Go.Proofs.YtkilblnlplfknaaGreatDoor
end
section
/- Orders that are drawn, in plain Lean. -/
namespace Go.Proofs.YtkilblnlplfknaaGreatDoor
open Go.RowKit Go.Proofs.YtkilblnlplfknaaGreatDoorW.PrintWords Go.Proofs.YtkilblnlplfknaaGreatDoorW.PrintMore
set_option linter.unusedVariables false
set_option linter.unusedSimpArgs false
set_option maxRecDepth 100000

/-- Fields below f, each with a sign. -/
structure OrU (O : List Int) (f : Int) : Prop where
  el : ∀ x, x ∈ O → 1 ≤ absF x ∧ absF x < f ∧ -6 ≤ x ∧ x ≤ 6
  up : O.Pairwise (fun x y => absF x < absF y)
theorem OrU.nil (f : Int) : OrU [] f := ⟨fun x h => (by cases h), List.Pairwise.nil⟩
theorem absF_pm {f x : Int} (h1 : 1 ≤ f) (h2 : f ≤ 6) (h : x = f ∨ x = -f) : absF x = f := by
  unfold absF
  rcases h with rfl | rfl
  · rw [if_neg (by omega)]
  · rw [if_pos (by omega), if_neg (by omega)]; omega
theorem OrU.snoc {O : List Int} {f x : Int} (h : OrU O f) (h1 : 1 ≤ f) (h2 : f ≤ 6) (hx : x = f ∨ x = -f) : OrU (O ++ [x]) (f + 1) := by
  have ha := absF_pm h1 h2 hx
  refine ⟨fun y hy => ?_, ?_⟩
  · rcases List.mem_append.1 hy with hy | hy
    · have := h.el y hy; omega
    · rw [List.mem_singleton.1 hy, ha]; omega
  · rw [List.pairwise_append]
    exact ⟨h.up, List.pairwise_singleton _ _, fun y hy z hz => by rw [List.mem_singleton.1 hz, ha]; exact (h.el y hy).2.1⟩
theorem OrU.skip {O : List Int} {f : Int} (h : OrU O f) : OrU O (f + 1) := ⟨fun x hx => by have := h.el x hx; omega, h.up⟩
theorem OrU.len {O : List Int} {f : Int} (h : OrU O f) (hf : f ≤ 7) : O.length ≤ 6 := by
  have h1 := few_of 6 (O.map absF) (by
    rw [List.pairwise_map]
    exact h.up.imp (fun h => by omega)) (by
    intro x hx
    obtain ⟨y, hy, rfl⟩ := List.mem_map.1 hx
    have := h.el y hy
    omega)
  rwa [List.length_map] at h1
theorem OrU.ord {O : List Int} (h : OrU O 7) (h0 : 0 < O.length) : vOrd O = true := by
  rw [vOrd_all, decide_eq_true_eq]
  · exact h0
  · intro i hi
    rw [ordAt_of (List.getElem?_eq_getElem hi), Bool.and_eq_true, Bool.not_eq_true', decide_eq_false_iff_not, inR_iff]
    have h1 := h.el O[i] (List.getElem_mem hi)
    refine ⟨by omega, fun hm => ?_⟩
    obtain ⟨y, hy, hye⟩ := List.mem_map.1 hm
    obtain ⟨j, hj, rfl⟩ := List.mem_take_iff_getElem.1 hy
    have := List.pairwise_iff_getElem.1 h.up j i (by omega) hi (by omega)
    omega
theorem OrU.ok {O : List Int} {f : Int} (h : OrU O f) : OrdOk O := fun x hx => by
  have h1 := h.el x hx
  refine ⟨by unfold I8; omega, fun e => ?_⟩
  rw [e] at h1
  have : absF 0 = 0 := by decide
  omega
theorem OrU.i8 {O : List Int} {f : Int} (h : OrU O f) : ∀ x ∈ O, I8 x := fun x hx => (h.ok x hx).1
end Go.Proofs.YtkilblnlplfknaaGreatDoor
end
section
/- What the laws on books draw: lists, books, numbers, orders. -/
namespace Go.Proofs.YtkilblnlplfknaaGreatDoor
open Go.RowKit Go.Proofs.YtkilblnlplfknaaGreatDoorW.PrintWords Go.Proofs.YtkilblnlplfknaaGreatDoorW.PrintMore
set_option linter.unusedVariables false
set_option linter.unusedSimpArgs false
set_option maxRecDepth 100000

/-- A drawn book. -/
def DrawnBk (w : World) (e : Ending) (w' : World) : Prop := ∃ b : Bk, e = .returned b.val ∧ vBook b = true ∧ b.ok ∧ Below w.heap.size w w'
/-- A drawn number. -/
def DrawnN (w : World) (n : Int) (e : Ending) (w' : World) : Prop := ∃ x : Int, e = .returned (.int .i64 x) ∧ 0 ≤ x ∧ x ≤ n - 1 ∧ Below w.heap.size w w'
/-- A drawn list of valid books. -/
def NewLB (w : World) (v : Value) (w' : World) : Prop := ∃ L : List Bk, kBk.R 30 w' w.heap.size (fun _ => True) v L ∧ VB L ∧ L.length ≤ 11
set_option maxHeartbeats 4000000 in
theorem P6List_c (A : Option Addr) (c : Nat) (Cd : List Int) (w : World) (hC : (Kd.int .u8).C w A Cd.length Cd) (hU : ∀ x, x ∈ Cd → 0 ≤ x ∧ x ≤ 255) :
    Calls Tryz.prog 6 #[.slice A Cd.length c] w (RetQ w (NewLB w)) := by
  have HF := Aside0.mk (l00From_c A c Cd w hC hU)
  clear hC hU
  go_enter Tryz.func6, Tryz.ntmps6
  go_wp2_with fail
  refine HF.out.mono ?_; rintro _ w1 ⟨rfl, hs1, hz1⟩
  have HZ1 := Aside0.mk hz1
  have HD := Aside0.mk (l01Drawn_c (w0 := w) (g := w.heap.size) (A := A) (c := c) (Cd := Cd) (at_ := 0) (by omega) w1 hs1)
  clear hs1 hz1
  go_wp2_with fail
  refine HD.out.mono ?_; rintro _ w2 ⟨v, L, a', rfl, hl, hr⟩
  have HB := Aside0.mk hr.src.below
  have HRW := Aside0.mk (show kBk.R 30 w2 w.heap.size (fun _ => True) v L from Kd.R_lower hr.row (by have := HZ1.out; omega))
  have HVB := Aside0.mk hr.ok
  clear hr
  go_wp2
  go_ret
  exact ⟨_, rfl, HB.out, L, HRW.out, HVB.out, hl⟩
set_option maxHeartbeats 4000000 in
theorem P6Book_c (A : Option Addr) (c : Nat) (Cd : List Int) (w : World) (hC : (Kd.int .u8).C w A Cd.length Cd) (hU : ∀ x, x ∈ Cd → 0 ≤ x ∧ x ≤ 255) :
    Calls Tryz.prog 7 #[.slice A Cd.length c] w (DrawnBk w) := by
  have hx := blk_new w (.cells #[.int .i16 0, .int .u8 0, .int .u8 0, .int .u8 0, .int .i16 0, .int .i16 0, .int .i16 0, .int .i16 0] 30)
  have hb0 : Below w.heap.size w (w.alloc (.cells #[.int .i16 0, .int .u8 0, .int .u8 0, .int .u8 0, .int .i16 0, .int .i16 0, .int .i16 0, .int .i16 0] 30)) := balloc (Below.refl _ _) _
  have HC := Aside0.mk (Kd.C_below hC hb0)
  clear hC
  go_enter Tryz.func7, Tryz.ntmps7
  go_wp2_with fail
  generalize World.alloc w _ = W0 at hx hb0 HC ⊢
  have HX := Aside0.mk hx
  have HB := Aside0.mk hb0
  clear hx hb0
  refine (l00From_c A c Cd W0 HC.out hU).mono ?_; rintro _ w1 ⟨rfl, hs1, hz1⟩
  have HD := Aside0.mk (l01One_c (w0 := W0) (g := W0.heap.size) (A := A) (c := c) (Cd := Cd) (at_ := 0) (by omega) w1 hs1)
  clear hs1 hz1
  go_wp2_with fail
  refine HD.out.mono ?_; rintro _ w2 ⟨b, a', rfl, hv, hok, ha, hs, hg⟩
  have hx2 := blk_below HX.out hs.below
  have HB2 := Aside0.mk (bstep HB.out hs.below)
  have HV := Aside0.mk hv
  have HOK := Aside0.mk hok
  clear hs hg hv hok
  simp only [Bk.val]
  have c0 := blk_cell hx2 0
  have f0 := blk_frozen hx2 0
  have c1 := blk_cell hx2 1
  have f1 := blk_frozen hx2 1
  have c2 := blk_cell hx2 2
  have f2 := blk_frozen hx2 2
  have c3 := blk_cell hx2 3
  have f3 := blk_frozen hx2 3
  have c4 := blk_cell hx2 4
  have f4 := blk_frozen hx2 4
  have c5 := blk_cell hx2 5
  have f5 := blk_frozen hx2 5
  have c6 := blk_cell hx2 6
  have f6 := blk_frozen hx2 6
  have c7 := blk_cell hx2 7
  have f7 := blk_frozen hx2 7
  simp only [List.getElem?_toArray, List.getElem?_cons_zero, List.getElem?_cons_succ] at c0 c1 c2 c3 c4 c5 c6 c7
  go_wp2
  refine bodyPost_ret (v := b.val) (by simp [results, Tryz.results7, go_sem, c0, c1, c2, c3, c4, c5, c6, c7, f0, f1, f2, f3, f4, f5, f6, f7, Bk.val]) rfl ?_
  refine ⟨b, rfl, HV.out, HOK.out, ?_⟩
  repeat (refine Below.setCell ?_ (by simp) _)
  exact HB2.out
set_option maxHeartbeats 4000000 in
theorem P6Pick_c (A : Option Addr) (c : Nat) (Cd : List Int) (n : Int) (hn0 : 2 ≤ n) (hn : n ≤ 10000) (w : World) (hC : (Kd.int .u8).C w A Cd.length Cd) (hU : ∀ x, x ∈ Cd → 0 ≤ x ∧ x ≤ 255) :
    Calls Tryz.prog 17 #[.slice A Cd.length c, .int .i64 n] w (DrawnN w n) := by
  have HF := Aside0.mk (l00From_c A c Cd w hC hU)
  clear hC hU
  go_enter Tryz.func17, Tryz.ntmps17
  go_wp2_with fail
  refine HF.out.mono ?_; rintro _ w1 ⟨rfl, hs1, hz1⟩
  have HD := Aside0.mk (pick_c (w0 := w) (g := w.heap.size) (A := A) (c := c) (Cd := Cd) (at_ := 0) (by omega) n (by omega) hn w1 hs1)
  clear hs1 hz1
  go_wp2_with fail
  refine HD.out.mono ?_; rintro _ w2 ⟨x, a', rfl, hx, ha, hs, hg⟩
  have HB := Aside0.mk hs.below
  rw [if_neg (by omega)] at hx
  have HX := Aside0.mk hx
  clear hs hg hx
  go_wp2
  go_ret
  exact ⟨x, rfl, HX.out.1, HX.out.2, HB.out⟩
set_option maxHeartbeats 2000000 in
theorem oneN_c {w0 : World} {g : Nat} {A : Option Addr} {c : Nat} {Cd : List Int} {at_ : Nat} (hat : at_ ≤ 999000) (n : Int) (hn0 : 0 ≤ n) (hn : n ≤ 10000) (w : World) (hs : Src w0 w g A c Cd at_) :
    Calls Tryz.prog 56 #[.pointer (some ⟨g, 0, none⟩), .int .i64 n] w (DrewB w0 w g A c Cd at_ 2) := by
  have HP := Aside0.mk (pick_c (w0 := w0) (g := g) (A := A) (c := c) (Cd := Cd) hat n hn0 hn w hs)
  clear hs
  go_enter Tryz.func56, Tryz.ntmps56
  go_wp2_with fail
  refine HP.out.mono ?_; rintro _ w1 ⟨x, a1, rfl, hx, ha1, hs1, hg1⟩
  have HG1 := Aside0.mk hg1
  have HS1 := Aside0.mk hs1
  clear hs1 hg1 hx
  go_wp2
  go_ret
  exact ⟨_, a1, rfl, ha1, HS1.out, HG1.out⟩
section
variable {ops : Array Oper} {rest : List Oper} {o : Oper} {a : Act} {Q : Exit → Act → World → Prop}
theorem i8_app {W : World} (base : Nat) (hbase : base ≤ W.heap.size) (hgd : o.guard = none) (s x : Operand) (ho : o.op = .call { callee := .builtin .append, args := #[s, x], argTypes := #[58, 58] }) (v : Value) (xs : List Int) (n : Int)
    (hs : a.eval s = v) (hx : a.eval x = .slice (some ⟨W.heap.size, 0, none⟩) 1 1) (HO : (Kd.int .i8).R 57 W base (fun _ => True) v xs) (hl : xs.length ≤ 2097152)
    (h : ∀ v1 w1, (Kd.int .i8).R 57 w1 base (fun _ => True) v1 (xs ++ [n]) → W.grownBy w1 v.ownBlock → wpList Tryz.prog ops Q rest (a.put o.dst v1) w1) :
    wpList Tryz.prog ops Q (o :: rest) a (W.alloc (.cells #[.int .i8 n] 57)) :=
  Kd.R_append (Kd.int .i8) (w0 := W) base hgd s x 58 57 (.int .i8 0) 1 ho Tryz.underlying58 (by kernel_rfl) rfl (by decide) (by decide) v xs n [.int .i8 n] (fun _ => True) (fun _ => False) hs hx rfl (fun _ h => h.elim) (fun _ _ => trivial) HO (Below.refl _ _) hbase (by omega)
    (fun v1 w1 h1 h2 h3 _ => h v1 w1 h1 h3)
end
theorem i8_keep {w w' : World} {base g : Nat} {v : Value} {L : List Int} (h : (Kd.int .i8).R 57 w base (fun _ => True) v L) (hg : w.grownBy w' (some g)) (hb : g < base) : (Kd.int .i8).R 57 w' base (fun _ => True) v L :=
  Kd.R_mono (Kd.R_grown (Kd.R_tight (kInt_E _) h) hg (fun k hk he => by have := Kd.R_base h k hk.symm; have := Option.some.inj he; omega)) (fun _ _ => trivial)
/-- An order under way, with a source. -/
structure OrdS (w0 w : World) (g : Nat) (A : Option Addr) (c : Nat) (Cd : List Int) (v : Value) (O : List Int) (at_ : Nat) (W : World) : Prop where
  src : Src w0 W g A c Cd at_
  row : (Kd.int .i8).R 57 W w.heap.size (fun _ => True) v O
  gw : g < w.heap.size
  sz : w.heap.size ≤ W.heap.size
section
variable {w0 w W W' : World} {g : Nat} {A : Option Addr} {c : Nat} {Cd : List Int} {v v' : Value} {O O' : List Int} {at_ a' : Nat}
theorem OrdS.pick (h : OrdS w0 w g A c Cd v O at_ W) (hs : Src w0 W' g A c Cd a') (hg : W.grownBy W' (some g)) : OrdS w0 w g A c Cd v O a' W' :=
  ⟨hs, i8_keep h.row hg h.gw, h.gw, Nat.le_trans h.sz hg.size⟩
theorem OrdS.wrote (h : OrdS w0 w g A c Cd v O at_ W) (hr : (Kd.int .i8).R 57 W' w.heap.size (fun _ => True) v' O') (hg : W.grownBy W' v.ownBlock) : OrdS w0 w g A c Cd v' O' at_ W' := by
  have hb := Kd.R_base h.row
  have hgw := h.gw
  exact ⟨h.src.grown hg (fun b e => by have := hb b e; omega), hr, hgw, Nat.le_trans h.sz hg.size⟩
end
/-- A drawn order. -/
def NewOrd (w : World) (v : Value) (w' : World) : Prop := ∃ O : List Int, (Kd.int .i8).R 57 w' w.heap.size (fun _ => True) v O ∧ OrU O 7 ∧ 0 < O.length
end Go.Proofs.YtkilblnlplfknaaGreatDoor
end
section
/- Lists of numbers: alike, and whether one has a number; whether bytes are too many. -/
namespace Go.Proofs.YtkilblnlplfknaaGreatDoor
open Go.RowKit Go.Proofs.YtkilblnlplfknaaGreatDoorW.PrintWords Go.Proofs.YtkilblnlplfknaaGreatDoorW.PrintMore
set_option linter.unusedVariables false
set_option linter.unusedSimpArgs false
set_option maxRecDepth 100000

theorem f6big_c (A : Option Addr) (n c : Nat) (hn : n ≤ 9223372036854775807) (w : World) : Calls Tryz.prog 4 #[.slice A n c] w (RetS w (.bool (decide (4096 < n)))) := by
  have hw : wrap64 (n : Int) = n := by unfold wrap64; omega
  by_cases h : 4096 < n
  · have hi : (4096 : Int) < (n : Int) := by omega
    have HD := Aside0.mk (decide_eq_true h)
    clear h
    go_enter Tryz.func4, Tryz.ntmps4
    go_wp2
    go_ret
    exact ⟨ret_bool HD.out.symm, rfl⟩
  · have hi : ¬ (4096 : Int) < (n : Int) := by omega
    have HD := Aside0.mk (decide_eq_false h)
    clear h
    go_enter Tryz.func4, Tryz.ntmps4
    go_wp2
    go_ret
    exact ⟨ret_bool HD.out.symm, rfl⟩
end Go.Proofs.YtkilblnlplfknaaGreatDoor
end
section
/- A region that draws its order, whose callees may lay blocks, and whose last operations come one behind the other. -/
namespace Go.Proofs.YtkilblnlplfknaaGreatDoor
open Go.RowKit Go.Proofs.YtkilblnlplfknaaGreatDoorW.PrintWords Go.Proofs.YtkilblnlplfknaaGreatDoorW.PrintMore
set_option linter.unusedVariables false
set_option linter.unusedSimpArgs false
set_option maxRecDepth 100000

section
variable {P : Program} {ops : Array Oper} {md : Region.Mode} {C : World → Prop}
/-- The operations ahead of n in whatever order: each is quiet in the class, none from n on can come up among them. -/
def headQ (P : Program) (md : Region.Mode) (ops : Array Oper) (C : World → Prop) (n : Nat) (L : Array Bool → Act → Prop) : Nat → Array Bool → Act → Prop
  | 0, listed, a => L listed a
  | f + 1, listed, a => Region.ready md ops listed ≠ [] ∧ ∀ i ∈ Region.ready md ops listed, i < n ∧ qOp P ops C i (headQ P md ops C n L f (listed.setIfInBounds i true)) a
theorem headQ_any {n g : Nat} {L : Array Bool → Act → Prop} {Q' : Exit → Act → World → Prop} (hL : ∀ listed a w, C w → L listed a → wpAny P md ops Q' g listed a w) :
    ∀ (f : Nat) (listed : Array Bool) (a : Act) (w : World), C w → headQ P md ops C n L f listed a → wpAny P md ops Q' (f + g) listed a w
  | 0, _, _, _, hw, h => by rw [Nat.zero_add]; exact hL _ _ _ hw h
  | f + 1, _, _, _, hw, h => by
    rw [Nat.add_right_comm]
    exact ⟨fun h0 => absurd h0 h.1, fun i hi => wpOp_of_qOp hw (fun a' w' hw' h' => headQ_any hL f _ a' w' hw' h') (h.2 i hi).2⟩
/-- An operation that is ready and apart from what has not come up is taken first. -/
theorem headQ_first {n i : Nat} {oi : Oper} {v : Value} {L : Array Bool → Act → Prop} (hi : ops[i]? = some oi) (hsel : ∀ (j : Nat) (o : Oper) cs b, ops[j]? = some o → o.op ≠ .select cs b)
    (hs : Region.sinkB md ops n = true) (hc : Region.chainB md ops n = true) (hn : n < ops.size) (hin : i < n) (hL : ∀ listed a, L listed a → ∀ j ∈ Region.ready md ops listed, n ≤ j) (f : Nat) :
    ∀ (listed : Array Bool) (a : Act), HeadInv md ops n listed →
      (∀ j oj, ops[j]? = some oj → j ≠ i → listed.getD j true = false → (∀ e ∈ oj.after, Region.binds md e = true → e.on ≠ i) → oi.apart ops oj = true) →
      i ∈ Region.ready md ops listed → YieldsIn P ops C oi v a → headQ P md ops C n L f (listed.setIfInBounds i true) (a.put oi.dst v) → headQ P md ops C n L (f + 1) listed a := by
  induction f with
  | zero =>
    intro listed a inv _ hr hy H
    refine ⟨fun h => (by rw [h] at hr; cases hr), fun j hj => ?_⟩
    by_cases hji : j = i
    · subst hji
      exact ⟨hin, hy.qOp hi H⟩
    · have h1 := hL _ _ H j (ready_mono hj hji)
      exact absurd hj (tail_waits hs hc hn inv _ i rfl hin (mem_ready.1 hr).1 j h1)
  | succ f ih =>
    intro listed a inv hfree hr hy H
    have hun := (mem_ready.1 hr).1
    refine ⟨fun h => (by rw [h] at hr; cases hr), fun j hj => ?_⟩
    by_cases hji : j = i
    · subst hji
      exact ⟨hin, hy.qOp hi H⟩
    · obtain ⟨hjn, h1⟩ := H.2 j (ready_mono hj hji)
      refine ⟨hjn, ?_⟩
      obtain ⟨hjun, oj, hoj, hall⟩ := mem_ready.1 hj
      have hno : ∀ e ∈ oj.after, Region.binds md e = true → e.on ≠ i := fun e he hb heq => by
        have h2 := hall e he hb
        rw [heq, getD_both hun] at h2
        cases h2
      refine qOp_mono (fun a' h3 => ih (listed.setIfInBounds j true) a' (inv.set hj hjn) (fun k ok hk hki hkun hkno => ?_) (ready_mono hr (Ne.symm hji)) h3.1 ?_)
        (qOp_put hoj (hfree j oj hoj hji hjun hno) (fun cs b => hsel i oi cs b hi) (fun cs b => hsel j oj cs b hoj) hy h1)
      · refine hfree k ok hk hki ?_ hkno
        by_cases hjk : j = k
        · rw [← hjk]
          exact hjun
        · rwa [getD_set_ne true hjk] at hkun
      · rw [Array.setIfInBounds_comm _ _ hji]
        exact h3.2
theorem headQ_lex {n g : Nat} {K : Act → Prop} (hsel : Region.noSelect ops = true) (hs : Region.sinkB md ops n = true) (hc : Region.chainB md ops n = true) (hn : n < ops.size) :
    ∀ (l : List Oper) (k : Nat) (listed : Array Bool) (a : Act), (∀ j, j < l.length → l[j]? = ops[k + j]?) → k + l.length = n → HeadInv md ops n listed →
    Region.lexHead md ops g l.length k listed = true → wpQuiet P ops C K l a → headQ P md ops C n (fun listed' a' => Region.seqB md ops g n listed' = true ∧ K a') l.length listed a
  | [], k, listed, a, _, hk, _, hB, h => by
    obtain rfl : k = n := hk
    exact ⟨hB, h⟩
  | o :: l, k, listed, a, hl, hk, inv, hB, h => by
    have h0 : ops[k]? = some o := (hl 0 (by simp)).symm
    simp only [List.length_cons, Region.lexHead, Bool.and_eq_true] at hB
    obtain ⟨⟨hr, hf⟩, hB'⟩ := hB
    have hkn : k < n := by rw [← hk]; simp
    have hr' : k ∈ Region.ready md ops listed := by simpa using hr
    obtain ⟨v, hy, hK⟩ := yieldsIn_of_qOp (K := wpQuiet P ops C K l) h0 (by unfold qOp; simp only [h0]; exact h)
    exact headQ_first h0 (Region.noSelect_spec hsel) hs hc hn hkn (fun _ _ hL => seqB_ready hL.1) l.length listed a inv (Region.free_spec h0 hf) hr' hy
      (headQ_lex hsel hs hc hn l (k + 1) _ _ (fun j hj => by have := hl (j + 1) (by simpa using hj); rw [Nat.add_assoc, Nat.add_comm 1 j]; exact this) (by rw [← hk, List.length_cons]; omega) (inv.set hr' hkn) hB' hK)
/-- The first n operations in the text's order serve every order; the rest comes one behind the other, from whatever world of the class. -/
theorem region_quiet_tail {id : Nat} {Q : Exit → Act → World → Prop} {a : Act} {w : World} {l : List Oper} (n : Nat) (hm : P.follows .mixedOrders = true) (hB : Region.lexTailB .any l.toArray n = true) (hC : C w.drew)
    (h : wpQuiet P l.toArray C (fun a' => ∀ w', C w' → wpList P l.toArray Q (l.drop n) a' w') (l.take n) a) : (Code.region id l.toArray true).wp P Q a w := by
  simp only [Region.lexTailB, Bool.and_eq_true, decide_eq_true_eq] at hB
  obtain ⟨⟨⟨⟨hsel, hn⟩, hs⟩, hc⟩, hlex⟩ := hB
  have hn' : n < l.length := by simpa using hn
  have e1 : (l.take n).length = n := by simp; omega
  have e2 : (l.drop n).length = l.toArray.size - n := by simp
  have H := headQ_lex (C := C) (md := .any) (g := l.toArray.size - n) hsel hs hc hn (l.take n) 0 (Array.replicate l.toArray.size false) a (fun j hj => by rw [e1] at hj; simp [hj]) (by rw [e1]; simp)
    ⟨by simp, fun j oj _ hl => (by rw [getD_replicate_false] at hl; cases hl), fun t _ ht => getD_in (by simpa using ht) (getD_replicate_false _ _)⟩ (by rw [e1]; exact hlex) h
  refine wp_region_any hm ?_
  have := headQ_any (Q' := Q) (g := l.toArray.size - n) (fun listed a' w' hw' hL => by
    have := wpAny_of_seq (md := .any) (Q' := Q) (l.drop n) n listed a' w' (fun j => by simp [List.getElem?_drop]) (by rw [e2]; exact hL.1) (hL.2 w' hw')
    rwa [e2] at this) _ _ _ w.drew hC H
  rw [e1, show n + (l.toArray.size - n) = l.toArray.size by simp; omega] at this
  simpa using this
end
/-- The same at the class of what has grown out of w. -/
theorem region_over_tail {P : Program} {id : Nat} {Q : Exit → Act → World → Prop} {a : Act} {w : World} {l : List Oper} (n : Nat) (hm : P.follows .mixedOrders = true) (hB : Region.lexTailB .any l.toArray n = true)
    (h : wpQuiet P l.toArray (fun w' => ∃ p : Over w, w' = p.W) (fun a' => ∀ w', (∃ p : Over w, w' = p.W) → wpList P l.toArray Q (l.drop n) a' w') (l.take n) a) : (Code.region id l.toArray true).wp P Q a w :=
  region_quiet_tail n hm hB ⟨⟨w.drew, bdrew (Below.refl _ _)⟩, rfl⟩ h
end Go.Proofs.YtkilblnlplfknaaGreatDoor
end
section
/- A region that draws its order, some of whose operations lay a block that others read: the quiet ones are taken first, from whatever world has grown out of the base. -/
namespace Go.Proofs.YtkilblnlplfknaaGreatDoor
open Go.RowKit Go.Proofs.YtkilblnlplfknaaGreatDoorW.PrintWords Go.Proofs.YtkilblnlplfknaaGreatDoorW.PrintMore
set_option linter.unusedVariables false
set_option linter.unusedSimpArgs false
set_option maxRecDepth 100000

section
variable {P : Program} {ops : Array Oper} {md : Region.Mode} {Q : Exit → Act → World → Prop}
/-- w has grown out of b, what b holds kept. -/
abbrev Ov (b w : World) : Prop := Below b.heap.size b w
theorem Ov.step {a b c : World} (h : Ov a b) (k : Ov b c) : Ov a c := bstep h k
/-- From whatever base above b, the operation yields v in every world above that base, and leaves one. -/
def YG (P : Program) (ops : Array Oper) (G : World → World → Prop) (b : World) (o : Oper) (v : Value) (a : Act) : Prop := ∀ b', G b b' → YieldsIn P ops (Ov b') o v a
/-- What the other operations keep. -/
structure Keep (G : World → World → Prop) : Prop where
  of : ∀ {b w}, Ov b w → G b w
  step : ∀ {a b c}, G a b → G b c → G a c
theorem Keep.ov : Keep Ov := ⟨fun h => h, fun h k => h.step k⟩
variable {G : World → World → Prop}
theorem YG.up (hG : Keep G) {b b' : World} {o : Oper} {v : Value} {a : Act} (h : YG P ops G b o v a) (hb : G b b') : YG P ops G b' o v a := fun c hc => h c (hG.step hb hc)
theorem putY {j : Nat} {oi oj : Oper} {v : Value} {Y : Act → Prop} (hj : ops[j]? = some oj) (hap : oi.apart ops oj = true) (hsj : ∀ cs b, oj.op ≠ .select cs b)
    (keep : ∀ a, Y a → ∀ u, Y (a.put oj.dst u)) (keepD : ∀ a d, Y a → Y { a with defers := d :: a.defers }) (hQ : ∀ c a w, Q (.panic c) (a.put oi.dst v) w → Q (.panic c) a w)
    {K : Act → World → Prop} {a : Act} {w : World} (hy : Y a) (h : wpOp P ops Q j K (a.put oi.dst v) w) : wpOp P ops Q j (fun a' w' => Y a' ∧ K (a'.put oi.dst v) w') a w := by
  obtain ⟨h1, h2, h3⟩ := Oper.apart_spec hap
  unfold wpOp at *
  simp only [hj] at *
  rw [wanted_put oj a oi.dst v h1] at h
  split
  · rename_i hw
    simp only [hw, if_true] at h
    rcases h with h | ⟨hasks, hlets⟩
    case inr => exact .inr ⟨by unfold Oper.asks at *; rw [execOp_put oj hsj a oi.dst v h1] at hasks; exact hasks, hlets⟩
    refine .inl ?_
    unfold Oper.wp at *
    rw [execOp_put oj hsj a oi.dst v h1] at h
    generalize (execOp a.eval oj).run P w = r at *
    cases r with
    | ok n w' =>
      cases n <;> simp only [Oper.upon] at h ⊢
      case value u => exact ⟨keep a hy u, by rw [← Act.put_comm a v u h2]; exact h⟩
      case skip => exact ⟨keep a hy _, by rw [← Act.put_comm a v undef h2]; exact h⟩
      case defer d =>
        refine ⟨keep _ (keepD _ d hy) _, ?_⟩
        rw [← Act.put_comm _ v undef h2, ← Act.put_defers]
        exact h
      case enter f args =>
        refine Calls.mono h fun e w'' he => ?_
        cases e with
        | returned u => exact ⟨keep a hy u, by rw [← Act.put_comm a v u h2]; exact he⟩
        | panicked c => exact hQ _ _ _ he
        | outgrown => exact he
      case row row args => exact Rows.mono h fun u w'' he => ⟨keep a hy u, by rw [← Act.put_comm a v u h2]; exact he⟩
    | halt x w' =>
      cases x <;> simp only [Oper.upon] at h ⊢
      case panic u => exact hQ _ _ _ h
  · rename_i hw
    simp only [hw] at h
    exact ⟨keep a hy _, by rw [← Act.put_comm a v undef h2]; exact h⟩
/-- The operations ahead of n in whatever order, each from whatever world above the base; the world that it leaves is the next base. -/
def headO (P : Program) (md : Region.Mode) (ops : Array Oper) (G : World → World → Prop) (Q : Exit → Act → World → Prop) (n : Nat) (L : Array Bool → Act → World → Prop) : Nat → Array Bool → Act → World → Prop
  | 0, listed, a, b => L listed a b
  | f + 1, listed, a, b => Region.ready md ops listed ≠ [] ∧ ∀ i ∈ Region.ready md ops listed, i < n ∧ ∀ w, Ov b w → wpOp P ops Q i (fun a' w' => G w w' ∧ headO P md ops G Q n L f (listed.setIfInBounds i true) a' w') a w
theorem headO_up {n : Nat} {L : Array Bool → Act → World → Prop} (hL : ∀ listed a b b', Ov b b' → L listed a b → L listed a b') {b b' : World} (hb : Ov b b') :
    ∀ (f : Nat) (listed : Array Bool) (a : Act), headO P md ops G Q n L f listed a b → headO P md ops G Q n L f listed a b'
  | 0, _, _, h => hL _ _ _ _ hb h
  | _ + 1, _, _, h => ⟨h.1, fun i hi => ⟨(h.2 i hi).1, fun w hw => (h.2 i hi).2 w (hb.step hw)⟩⟩
theorem headO_any {n g : Nat} {L : Array Bool → Act → World → Prop} (hL : ∀ listed a w, L listed a w → wpAny P md ops Q g listed a w) :
    ∀ (f : Nat) (listed : Array Bool) (a : Act) (w : World), headO P md ops G Q n L f listed a w → wpAny P md ops Q (f + g) listed a w
  | 0, _, _, _, h => by rw [Nat.zero_add]; exact hL _ _ _ h
  | f + 1, _, _, w, h => by
    rw [Nat.add_right_comm]
    exact ⟨fun h0 => absurd h0 h.1, fun i hi => wpOp_mono (fun a' w' h' => headO_any hL f _ a' w' h'.2) ((h.2 i hi).2 w (Below.refl _ _))⟩
theorem YG.op (hG : Keep G) {b : World} {i : Nat} {o : Oper} {v : Value} {a : Act} {K : Act → World → Prop} (hi : ops[i]? = some o) (hy : YG P ops G b o v a) (hK : ∀ w, Ov b w → K (a.put o.dst v) w) (w : World) (hw : Ov b w) :
    wpOp P ops Q i (fun a' w' => G w w' ∧ K a' w') a w :=
  wpOp_of_qOp (C := Ov w) (K := fun a' => a' = a.put o.dst v) (Below.refl _ _) (fun a' w' h1 h2 => ⟨hG.of h1, by rw [h2]; exact hK w' (hw.step h1)⟩) ((hy w (hG.of hw)).qOp hi rfl)
theorem headO_first (hG : Keep G) {n i : Nat} {oi : Oper} {v : Value} {L : Array Bool → Act → World → Prop} (hi : ops[i]? = some oi) (hsel : ∀ (j : Nat) (o : Oper) cs b, ops[j]? = some o → o.op ≠ .select cs b)
    (hQ : ∀ c a w, Q (.panic c) (a.put oi.dst v) w → Q (.panic c) a w)
    (hs : Region.sinkB md ops n = true) (hc : Region.chainB md ops n = true) (hn : n < ops.size) (hin : i < n) (hL : ∀ listed a b, L listed a b → ∀ j ∈ Region.ready md ops listed, n ≤ j)
    (hLu : ∀ listed a b b', Ov b b' → L listed a b → L listed a b') (f : Nat) :
    ∀ (listed : Array Bool) (a : Act) (b : World), HeadInv md ops n listed →
      (∀ j oj, ops[j]? = some oj → j ≠ i → listed.getD j true = false → (∀ e ∈ oj.after, Region.binds md e = true → e.on ≠ i) → oi.apart ops oj = true) →
      i ∈ Region.ready md ops listed → YG P ops G b oi v a → headO P md ops G Q n L f (listed.setIfInBounds i true) (a.put oi.dst v) b → headO P md ops G Q n L (f + 1) listed a b := by
  induction f with
  | zero =>
    intro listed a b inv _ hr hy H
    refine ⟨fun h => (by rw [h] at hr; cases hr), fun j hj => ?_⟩
    by_cases hji : j = i
    · subst hji
      exact ⟨hin, hy.op hG hi (fun w hw => hLu _ _ _ _ hw H)⟩
    · have h1 := hL _ _ _ H j (ready_mono hj hji)
      exact absurd hj (tail_waits hs hc hn inv _ i rfl hin (mem_ready.1 hr).1 j h1)
  | succ f ih =>
    intro listed a b inv hfree hr hy H
    have hun := (mem_ready.1 hr).1
    refine ⟨fun h => (by rw [h] at hr; cases hr), fun j hj => ?_⟩
    by_cases hji : j = i
    · subst hji
      exact ⟨hin, hy.op hG hi (fun w hw => headO_up hLu hw _ _ _ H)⟩
    · obtain ⟨hjn, h1⟩ := H.2 j (ready_mono hj hji)
      refine ⟨hjn, fun w hw => ?_⟩
      obtain ⟨hjun, oj, hoj, hall⟩ := mem_ready.1 hj
      have hno : ∀ e ∈ oj.after, Region.binds md e = true → e.on ≠ i := fun e he hb heq => by
        have h2 := hall e he hb
        rw [heq, getD_both hun] at h2
        cases h2
      have hap := hfree j oj hoj hji hjun hno
      obtain ⟨p1, p2, p3⟩ := Oper.apart_spec hap
      have h2 := putY (Q := Q) (Y := fun a' => YG P ops G b oi v a') hoj hap (fun cs c => hsel j oj cs c hoj)
        (fun a' hy' u b' hb' => (hy' b' hb').of_same (execOp_put oi (fun cs c => hsel i oi cs c hi) a' oj.dst u p3) (wanted_put oi a' oj.dst u p3))
        (fun a' d hy' b' hb' => (hy' b' hb').of_same rfl rfl) hQ hy (h1 w hw)
      refine wpOp_mono (fun a' w' h3 => ⟨h3.2.1, ih (listed.setIfInBounds j true) a' w' (inv.set hj hjn) (fun k ok hk hki hkun hkno => ?_) (ready_mono hr (Ne.symm hji)) (h3.1.up hG (hG.step (hG.of hw) h3.2.1)) ?_⟩) h2
      · refine hfree k ok hk hki ?_ hkno
        by_cases hjk : j = k
        · rw [← hjk]
          exact hjun
        · rwa [getD_set_ne true hjk] at hkun
      · rw [Array.setIfInBounds_comm _ _ hji]
        exact h3.2.2
/-- The walk's state: what is listed has come up. -/
def HO (P : Program) (md : Region.Mode) (l : List Oper) (G : World → World → Prop) (Q : Exit → Act → World → Prop) (n f : Nat) (listed : Array Bool) (a : Act) (b : World) : Prop :=
  HeadInv md l.toArray n listed → headO P md l.toArray G Q n (fun listed' a' b' => Region.seqB md l.toArray (l.toArray.size - n) n listed' = true ∧ ∀ w, Ov b' w → wpList P l.toArray Q (l.drop n) a' w) f listed a b
def sideB (md : Region.Mode) (l : List Oper) (n : Nat) : Bool := Region.noSelect l.toArray && decide (n < l.toArray.size) && Region.sinkB md l.toArray n && Region.chainB md l.toArray n
theorem HO_take (hG : Keep G) {l : List Oper} {n f i : Nat} {listed : Array Bool} {a : Act} {b : World} {oi : Oper} {v : Value} (hi : l.toArray[i]? = some oi) (hB : sideB md l n = true) (hf : Region.free md l.toArray listed i = true)
    (hr : (Region.ready md l.toArray listed).contains i = true) (hin : i < n) (hQ : ∀ c a w, Q (.panic c) (a.put oi.dst v) w → Q (.panic c) a w)
    (hy : YG P l.toArray G b oi v a) (H : HO P md l G Q n f (listed.setIfInBounds i true) (a.put oi.dst v) b) : HO P md l G Q n (f + 1) listed a b := by
  simp only [sideB, Bool.and_eq_true, decide_eq_true_eq] at hB
  obtain ⟨⟨⟨hsel, hn⟩, hs⟩, hc⟩ := hB
  intro inv
  have hr' : i ∈ Region.ready md l.toArray listed := by simpa using hr
  exact headO_first hG hi (Region.noSelect_spec hsel) hQ hs hc hn hin (fun _ _ _ hL => seqB_ready hL.1) (fun _ _ _ _ hb hL => ⟨hL.1, fun w hw => hL.2 w (hb.step hw)⟩) f listed a b inv (Region.free_spec hi hf) hr' hy (H (inv.set hr' hin))
/-- The one operation that may come up. -/
theorem HO_one {l : List Oper} {n f i : Nat} {listed : Array Bool} {a : Act} {b : World} (hr : Region.ready md l.toArray listed = [i]) (hin : i < n)
    (H : ∀ w, Ov b w → wpOp P l.toArray Q i (fun a' w' => G w w' ∧ HO P md l G Q n f (listed.setIfInBounds i true) a' w') a w) : HO P md l G Q n (f + 1) listed a b := by
  intro inv
  have hm : i ∈ Region.ready md l.toArray listed := by rw [hr]; exact List.mem_singleton.2 rfl
  refine ⟨by rw [hr]; simp, fun j hj => ?_⟩
  rw [hr, List.mem_singleton] at hj
  subst hj
  exact ⟨hin, fun w hw => wpOp_mono (fun a' w' h => ⟨h.1, h.2 (inv.set hm hin)⟩) (H w hw)⟩
/-- .. walked. -/
theorem HO_step {l : List Oper} {n f i : Nat} {listed : Array Bool} {a : Act} {b : World} {oi : Oper} (hi : l.toArray[i]? = some oi) (hr : Region.ready md l.toArray listed = [i]) (hin : i < n) (hw : Region.wanted oi (yielded l.toArray a.tmps) = true)
    (H : ∀ w, Ov b w → ∀ K : Act → World → Prop, (∀ a' w', G w w' → HO P md l G Q n f (listed.setIfInBounds i true) a' w' → K a' w') → oi.wp P a w K Q) : HO P md l G Q n (f + 1) listed a b :=
  HO_one hr hin (fun w hb => by
    unfold wpOp
    simp only [hi, hw, if_true]
    exact .inl (H w hb _ (fun _ _ h1 h2 => ⟨h1, h2⟩)))
/-- Two may come up. -/
theorem HO_step2 {l : List Oper} {n f i j : Nat} {listed : Array Bool} {a : Act} {b : World} {oi oj : Oper} (hi : l.toArray[i]? = some oi) (hj : l.toArray[j]? = some oj) (hr : Region.ready md l.toArray listed = [i, j]) (hin : i < n) (hjn : j < n)
    (hw : Region.wanted oi (yielded l.toArray a.tmps) = true) (hw' : Region.wanted oj (yielded l.toArray a.tmps) = true)
    (H : ∀ w, Ov b w → ∀ K : Act → World → Prop, (∀ a' w', G w w' → HO P md l G Q n f (listed.setIfInBounds i true) a' w' → K a' w') → oi.wp P a w K Q)
    (H' : ∀ w, Ov b w → ∀ K : Act → World → Prop, (∀ a' w', G w w' → HO P md l G Q n f (listed.setIfInBounds j true) a' w' → K a' w') → oj.wp P a w K Q) : HO P md l G Q n (f + 1) listed a b := by
  intro inv
  refine ⟨by rw [hr]; simp, fun k hk => ?_⟩
  have hm : i ∈ Region.ready md l.toArray listed ∧ j ∈ Region.ready md l.toArray listed := by rw [hr]; exact ⟨by simp, by simp⟩
  rw [hr] at hk
  rcases List.mem_cons.1 hk with rfl | hk
  · refine ⟨hin, fun w hb => ?_⟩
    unfold wpOp
    simp only [hi, hw, if_true]
    exact .inl (H w hb _ (fun _ _ h1 h2 => ⟨h1, h2 (inv.set hm.1 hin)⟩))
  · obtain rfl := List.mem_singleton.1 hk
    refine ⟨hjn, fun w hb => ?_⟩
    unfold wpOp
    simp only [hj, hw', if_true]
    exact .inl (H' w hb _ (fun _ _ h1 h2 => ⟨h1, h2 (inv.set hm.2 hjn)⟩))
theorem HO_end {l : List Oper} {n : Nat} {listed : Array Bool} {a : Act} {b : World} (hB : Region.seqB md l.toArray (l.toArray.size - n) n listed = true) (H : ∀ w, Ov b w → wpList P l.toArray Q (l.drop n) a w) : HO P md l G Q n 0 listed a b :=
  fun _ => ⟨hB, H⟩
theorem region_HO {id : Nat} {a : Act} {w : World} {l : List Oper} (n : Nat) (hm : P.follows .mixedOrders = true) (hB : sideB .any l n = true) (H : HO P .any l G Q n n (Array.replicate l.toArray.size false) a w.drew) : (Code.region id l.toArray true).wp P Q a w := by
  simp only [sideB, Bool.and_eq_true, decide_eq_true_eq] at hB
  obtain ⟨⟨⟨hsel, hn⟩, hs⟩, hc⟩ := hB
  have h := H ⟨by simp, fun j oj _ hl => (by rw [getD_replicate_false] at hl; cases hl), fun t _ ht => getD_in (by simpa using ht) (getD_replicate_false _ _)⟩
  refine wp_region_any hm ?_
  have e2 : (l.drop n).length = l.toArray.size - n := by simp
  have := headO_any (g := l.toArray.size - n) (fun listed a' w' hL => by
    have := wpAny_of_seq (md := .any) (Q' := Q) (l.drop n) n listed a' w' (fun j => by simp [List.getElem?_drop]) (by rw [e2]; exact hL.1) (hL.2 w' (Below.refl _ _))
    rwa [e2] at this) _ _ _ w.drew h
  rw [show n + (l.toArray.size - n) = l.toArray.size by have := hn; omega] at this
  exact this
end
end Go.Proofs.YtkilblnlplfknaaGreatDoor
end
section
/- The law FnSortedLists: what it draws, and what it asks in plain Lean. -/
namespace Go.Proofs.YtkilblnlplfknaaGreatDoor
open Go.RowKit Go.Proofs.YtkilblnlplfknaaGreatDoorW.PrintWords Go.Proofs.YtkilblnlplfknaaGreatDoorW.PrintMore
set_option linter.unusedVariables false
set_option linter.unusedSimpArgs false
set_option maxRecDepth 100000

theorem usual_C' (W : World) : (Kd.int .i8).C (W.alloc (.cells #[.int .i8 1, .int .i8 2, .int .i8 3] 57)) (some ⟨W.heap.size, 0, none⟩) usualL.length usualL := by
  have hx := blk_new W (.cells #[.int .i8 1, .int .i8 2, .int .i8 3] 57)
  exact three_C _ _ 0 1 2 3 (blk_cell hx 0) (blk_cell hx 1) (blk_cell hx 2)
set_option maxHeartbeats 2000000 in
theorem P6Sorted_c (A : Option Addr) (c : Nat) (L : List Bk) (w : World) (hL : kBk.C w A L.length L) (hok : OkL L) (hn : L.length ≤ 60) :
    Calls Tryz.prog 5 #[.slice A L.length c] w (RetQ w (NewBk w (Srt.sortL (ltBy usualL) L))) := by
  have hb0 : Below w.heap.size w (w.alloc (.cells #[.int .i8 1, .int .i8 2, .int .i8 3] 57)) := balloc (Below.refl _ _) _
  have HS := Aside0.mk (sortedU_c w.heap.size A c L _ (usual_C' w) (Kd.C_below hL hb0) hok hn)
  have HB := Aside0.mk hb0
  clear hL hb0
  generalize Srt.sortL (ltBy usualL) L = R at HS ⊢
  go_enter Tryz.func5, Tryz.ntmps5
  go_wp2_with fail
  refine HS.out.mono ?_; rintro _ w1 ⟨v, rfl, hb, hv⟩
  have HB1 := Aside0.mk (bstep HB.out hb)
  have HV := Aside0.mk (show kBk.R 30 w1 w.heap.size (fun _ => True) v R from Kd.R_lower hv HB.out.size)
  clear hb hv
  go_wp2
  go_ret
  exact ⟨_, rfl, HB1.out, HV.out⟩
section
variable {ops : Array Oper} {rest : List Oper} {o : Oper} {a : Act} {Q : Exit → Act → World → Prop}
theorem info_u8' : (Tryz.prog.info? 5).map (fun i => (i.zero, i.size, i.bytes)) = some (some (.int .u8 0), 1, 1) := by kernel_rfl
/-- append([]byte{3}, xs...). -/
theorem u8_append_all {w W : World} (hgd : o.guard = none) (s x : Operand) (ho : o.op = .call { callee := .builtin .append, args := #[s, x], argTypes := #[22, 22] }) (A : Option Addr) (m c : Nat) (ys : List Int)
    (hs : a.eval s = .slice (some ⟨W.heap.size, 0, none⟩) 1 1) (hx : a.eval x = .slice A m c) (HL : (Kd.int .u8).C W A m ys) (HB : Below w.heap.size w W) (hl : m ≤ 2097152)
    (h : ∀ v1 w1, (Kd.int .u8).R 5 w1 w.heap.size (fun _ => True) v1 ([3] ++ ys) → Below w.heap.size w w1 → wpList Tryz.prog ops Q rest (a.put o.dst v1) w1) :
    wpList Tryz.prog ops Q (o :: rest) a (W.alloc (.cells #[.int .u8 3] 5)) :=
  Kd.R_append_rows (Kd.int .u8) (Rr := (Kd.int .u8).K (W.alloc (.cells #[.int .u8 3] 5))) (w0 := w) w.heap.size hgd s x 22 5 (.int .u8 0) 1 ho Tryz.underlying22 info_u8' rfl (by decide) (by decide) _ [3] ys A m c (fun _ => True) (fun _ => False) hs hx
    (Kd.R_of_own (by exact ⟨rfl, .inr ⟨W.heap.size, 1, _, rfl, HB.size, heap_alloc_new W _, Nat.le_refl _, by decide, rfl, rfl⟩⟩) (fun _ _ => trivial)) (Kd.C_below HL (balloc (Below.refl _ _) _)) (fun x cs h => h) (fun _ h => h.elim) (fun _ _ => trivial) (HB.alloc HB.size _) (by simp only [World.size_alloc]; have := HB.size; omega) (by simp; omega)
    (fun v1 w1 h1 h2 _ _ => h v1 w1 h1 h2)
end
theorem st_pf {A : List Bk} {x : Bk} (hv : vBooks A = true) (hs : isS A = true) (hl : A.length ≤ 11) (hx : vBook x = true) : pfV A x = ((placeOf x A : Nat) : Int) ∧ pfC A x = 0 := by
  have hc : sCode A = 0 := sCode_zero.2 ⟨hv, hs⟩
  refine pf_ok ?_
  unfold pfC
  rw [if_pos hx, if_pos hc, if_neg (by omega)]
theorem st_mg {A B : List Bk} (ha : vBooks A = true) (hb : vBooks B = true) (sa : isS A = true) (sb : isS B = true) (la : A.length ≤ 11) (lb : B.length ≤ 11) : mgV A B = Srt.sortL (ltBy usualL) (A ++ B) ∧ mgE A B = 0 := by
  refine mg_ok ?_
  unfold mgE okMg inMg
  rw [ha, hb, sa, sb]
  simp
  omega
/-- The books of both. -/
structure MgF (A B M : List Bk) : Prop where
  v : mgV A B = M
  e : mgE A B = 0
  len : M.length = A.length + B.length
  val : vBooks M = true
  srt : isS M = true
  cnt : ∀ b, cntB M b = cntB A b + cntB B b
  ok : OkL M
theorem MgF.of {A B : List Bk} (ha : vBooks A = true) (hb : vBooks B = true) (sa : isS A = true) (sb : isS B = true) (la : A.length ≤ 11) (lb : B.length ≤ 11) (oa : OkL A) (ob : OkL B) : MgF A B (Srt.sortL (ltBy usualL) (A ++ B)) := by
  obtain ⟨h1, h2⟩ := st_mg ha hb sa sb la lb
  have hva : ∀ b, b ∈ A ++ B → vBook b = true := fun b h => by
    unfold vBooks at ha hb
    rw [Bool.and_eq_true, List.all_eq_true] at ha hb
    rcases List.mem_append.1 h with h | h
    · exact ha.2 b h
    · exact hb.2 b h
  refine ⟨h1, h2, by rw [sort_len, List.length_append], sort_valid hva (by rw [List.length_append]; omega), sort_isS _, fun b => by rw [cntB_sort, cntB_app], fun b h => ?_⟩
  rcases List.mem_append.1 (sort_mem.1 h) with h | h
  · exact oa b h
  · exact ob b h
/-- A sorted list that is drawn. -/
structure SoF (A : List Bk) : Prop where
  val : vBooks A = true
  srt : isS A = true
  len : A.length ≤ 11
  ok : OkL A
  vb : ∀ b, b ∈ A → vBook b = true
theorem SoF.of {L : List Bk} (hv : VB L) (hl : L.length ≤ 11) : SoF (Srt.sortL (ltBy usualL) L) :=
  ⟨sort_valid (fun b h => (hv b h).1) (by omega), sort_isS L, by rw [sort_len]; exact hl, fun b h => (hv b (sort_mem.1 h)).2, fun b h => (hv b (sort_mem.1 h)).1⟩
theorem tv_ok {L : List Bk} (h : vBooks L = true) : totV L = totL L ∧ cntV L = cntL L ∧ eV L = 0 := by unfold totV cntV eV; rw [h]; exact ⟨rfl, rfl, rfl⟩
theorem wide_valid {A : List Bk} {x : Bk} (h : SoF A) (hx : vBook x = true) : vBooks (wideL A x) = true := vBooks_of (fun b hb => by
  rcases wide_mem hb with rfl | hb
  · exact hx
  · exact h.vb b hb) (by rw [wide_len]; have := h.len; omega)
theorem st_add (g k : Nat) : (⟨g, 0, none⟩ : Addr).add k = ⟨g, k, none⟩ := by
  unfold Addr.add
  split
  · rename_i h; subst h; rfl
  · simp
/-- A box with one book, read as a row. -/
theorem bk1_C {W : World} {g : Nat} {x : Bk} {t : TypeId} (h : W.heap[g]? = some (.cells (Bk.cells x).toArray t (0, 0))) : kBk.C W (some ⟨g, 0, none⟩) 1 [x] := by
  refine ⟨rfl, by decide, fun _ => ⟨⟨g, 0, none⟩, rfl, fun j p hp => ?_⟩⟩
  match j, hp with
  | 0, hp =>
    obtain rfl : x = p := Option.some.inj hp
    refine ⟨Bk.cells x, rfl, rfl, fun i u hu => ?_⟩
    rw [show 0 * kBk.sz + i = i by simp, st_add]
    have h1 := blk_cell h i
    rw [List.getElem?_toArray] at h1
    exact h1.trans hu
section
variable {ops : Array Oper} {o : Oper} {a : Act} {Q : Exit → Act → World → Prop} {K : Act → World → Prop}
/-- append(v, ys...), as an operation of a region. -/
theorem app_rows_wp {W0 W : World} (hg : o.guard = none) (s x : Operand) (ho : o.op = .call { callee := .builtin .append, args := #[s, x], argTypes := #[24, 24] }) (v : Value) (xs ys : List Bk) (A : Option Addr) (m c : Nat)
    (hs : a.eval s = v) (hx : a.eval x = .slice A m c) (HO : kBk.R 30 W W0.heap.size (fun _ => True) v xs) (HR : kBk.C W A m ys) (HB : Below W0.heap.size W0 W) (hl : xs.length + m ≤ 2097152)
    (h : ∀ v1 w1, kBk.R 30 w1 W0.heap.size (fun _ => True) v1 (xs ++ ys) → Below W0.heap.size W0 w1 → W.grownBy w1 v.ownBlock → K (a.put o.dst v1) w1) : o.wp Tryz.prog a W K Q := by
  have hw : Region.wanted o (yielded (#[] : Array Oper) a.tmps) = true := by unfold Region.wanted; rw [hg]
  have := Kd.R_append_rows_step (P := Tryz.prog) (ops := #[]) (Kc := K) (Q := Q) kBk (Rr := kBk.K W) (w0 := W0) (W := W) W0.heap.size hw s x 24 30 (.agg #[.int .i16 0, .int .u8 0, .int .u8 0, .int .u8 0, .int .i16 0, .int .i16 0, .int .i16 0, .int .i16 0]) 14 ho Tryz.underlying24 info_bk rfl (by decide) (by decide) v xs ys A m c (fun _ => True) (fun _ => False) hs hx HO HR (fun x cs h => h) (fun _ h => h.elim) (fun _ _ => trivial) HB HB.size (by omega) (fun v1 w1 h1 h2 h3 _ => h v1 w1 h1 h2 h3)
  rwa [if_pos hw] at this
end
theorem info_bkS : ∃ i, Tryz.prog.info? 30 = some i ∧ i.size = 8 := by
  have h : (Tryz.prog.info? 30).map (fun i => i.size) = some 8 := by kernel_rfl
  obtain ⟨i, h1, h2⟩ := Option.map_eq_some_iff.1 h
  exact ⟨i, h1, h2⟩
/-- A list cut in two: what the cuts give, and that they are read. -/
theorem cut_two (A : Option Addr) (d : Nat) (L : List Bk) (p : Nat) (hp : p ≤ L.length) (hd : L.length ≤ d) :
    (∀ W : World, (Instr.slice 24 (.slice A L.length d) none (some (.int .i64 (p : Int))) none).run Tryz.prog W = .ok (.slice A p d) W) ∧
    ∃ (A2 : Option Addr) (d2 : Nat), (∀ W : World, (Instr.slice 24 (.slice A L.length d) (some (.int .i64 (p : Int))) none none).run Tryz.prog W = .ok (.slice A2 (L.length - p) d2) W) ∧
      (∀ W : World, kBk.C W A L.length L → kBk.C W A p (L.take p)) ∧ (∀ W : World, kBk.C W A L.length L → kBk.C W A2 (L.length - p) (L.drop p)) := by
  obtain ⟨i, hi, hs⟩ := info_bkS
  refine ⟨fun W => ?_, if d = (p : Int).toNat then A else A.map (·.add ((p : Int).toNat * 8)), d - (p : Int).toNat, fun W => ?_, fun W h => ?_, fun W h => ?_⟩
  · exact cut_to 24 30 .i64 Tryz.underlying24 hi A L.length d (p : Int) (by omega) (by omega) hd W
  · exact cut_from 24 30 .i64 Tryz.underlying24 hi 8 hs A L.length d (p : Int) (by omega) (by omega) W
  · have h1 := Kd.C_take h hp
    rwa [List.length_take, Nat.min_eq_left hp] at h1
  · have h1 := Kd.C_drop (c := d) h hp hd
    rwa [List.length_drop] at h1
/-- What the operations keep: only blocks that are new change. -/
def KS (w0 : World) (b w : World) : Prop := Below w0.heap.size w0 b → Below w0.heap.size w0 w
theorem kS (w0 : World) : Keep (KS w0) := ⟨fun h hb => bstep hb h, fun h k hb => k (h hb)⟩
/-- A book has been put into its place in a new list. -/
def StQ (A1 : Value → Value → Nat → Value → Value → Act) (W0 : World) (L : List Bk) (e : Exit) (a' : Act) (W' : World) : Prop :=
  ∃ v0 v4 g6 v7 v, e = .normal ∧ a' = A1 v0 v4 g6 v7 v ∧ Below W0.heap.size W0 W' ∧ kBk.R 30 W' W0.heap.size (fun _ => True) v L
/-- A book in its place in a sorted list: where it is found. -/
structure WdF (A : List Bk) (x : Bk) (M : List Bk) (k : Nat) : Prop where
  val : vBooks M = true
  srt : isS M = true
  e : eV M = 0
  len : M.length = A.length + 1
  fv : fbV M (fbP x.c (markS x) x.v) = (k : Int)
  fe : fbE M (fbP x.c (markS x) x.v) = 0
  le : k ≤ placeOf x A
  lt : k < M.length
  yes : ∀ y, M[k]? = some y → cmpU y x = 0
  no : ∀ y, 0 < k → M[k - 1]? = some y → cmpU y x ≠ 0
theorem WdF.of {A : List Bk} {x : Bk} (h : SoF A) (hx : vBook x = true) : ∃ k, WdF A x (wideL A x) k := by
  obtain ⟨k, h1, h2, h3, h4, h5, h6⟩ := find_wide h.val (by have := h.len; omega) h.srt hx
  exact ⟨k, wide_valid h hx, wide_isS h.srt x, eV_t (wide_valid h hx), wide_len A x, h1, h2, h3, h4, h5, h6⟩
/-- The book behind the place is a later one. -/
theorem place_gt {A : List Bk} {x y : Bk} (h : A[placeOf x A]? = some y) : 0 < cmpU y x := by
  have h1 := place_at h
  have h2 := cmpU_anti x y
  unfold ltU at h1
  rw [decide_eq_true_eq] at h1
  omega
/-- The classes of a sorted list: where they lie. -/
structure ClF (M : List Bk) (low high : Int) (p q : Nat) : Prop where
  f : crF M low high = (p : Int)
  t : crT M low high = (q : Int)
  e : crC M low high = 0
  le : p ≤ q
  ln : q ≤ M.length
  lo : ∀ i b, M[i]? = some b → (p ≤ i ↔ low ≤ b.c)
  hi : ∀ i b, M[i]? = some b → (i < q ↔ b.c ≤ high)
theorem ClF.of {M : List Bk} {low high : Int} (hv : vBooks M = true) (hs : isS M = true) (h0 : 0 ≤ low) (h1 : low ≤ high) (h9 : high ≤ 999) : ∃ p q, ClF M low high p q := by
  have hc : crC M low high = 0 := by
    unfold crC okRange
    rw [if_pos (sCode_zero.2 ⟨hv, hs⟩), inR_iff.2 ⟨h0, by omega⟩, inR_iff.2 ⟨by omega, h9⟩, decide_eq_true h1]
    rfl
  obtain ⟨e1, e2, e3⟩ := cr_ok hc
  refine ⟨_, _, e1, e2, e3, range_le M (by omega), List.findIdx_le_length, fun i b h => class_le (isS_up hs) h, fun i b h => ?_⟩
  have := class_le (n := high + 1) (isS_up hs) h
  omega
theorem info_i64E : ∃ i, Tryz.prog.info? 2 = some i ∧ i.size = 1 := by
  have h : (Tryz.prog.info? 2).map (fun i => i.size) = some 1 := by kernel_rfl
  obtain ⟨i, h1, h2⟩ := Option.map_eq_some_iff.1 h
  exact ⟨i, h1, h2⟩
theorem agg_i64E (w : World) : (isAgg 2).run Tryz.prog w = .ok false w := by kernel_rfl
/-- An array of 3 whole numbers against itself. -/
theorem eq3_same (a0 a1 a2 : Int) (w : World) : (Op.equalIn 10000 45 (.agg #[.int .i64 a0, .int .i64 a1, .int .i64 a2]) (.agg #[.int .i64 a0, .int .i64 a1, .int .i64 a2])).run Tryz.prog w = .ok true w := by
  obtain ⟨i, hi, hs⟩ := info_i64E
  rw [run_equalIn_array w 9999 _ _ Tryz.underlying45 hi]
  have hc : Tryz.prog.cellsOf 2 = 1 := by kernel_rfl
  rw [hc, show List.range 3 = [0, 1, 2] from rfl]
  have e1 : ∀ (a : Int) (w : World), (Op.equalIn 9999 2 (.int .i64 a) (.int .i64 a)).run Tryz.prog w = .ok true w := fun a w => (run_equalIn_int w 9998 2 .i64 .i64 a a Tryz.underlying2).trans (by simp)
  simp [Op.eqItems, Sem.run_bind, part, agg_i64E, e1]
/-- An array of 10 whole numbers against itself. -/
theorem eq10_same (a0 a1 a2 a3 a4 a5 a6 a7 a8 a9 : Int) (w : World) : (Op.equalIn 10000 48 (.agg #[.int .i64 a0, .int .i64 a1, .int .i64 a2, .int .i64 a3, .int .i64 a4, .int .i64 a5, .int .i64 a6, .int .i64 a7, .int .i64 a8, .int .i64 a9]) (.agg #[.int .i64 a0, .int .i64 a1, .int .i64 a2, .int .i64 a3, .int .i64 a4, .int .i64 a5, .int .i64 a6, .int .i64 a7, .int .i64 a8, .int .i64 a9])).run Tryz.prog w = .ok true w := by
  obtain ⟨i, hi, hs⟩ := info_i64E
  rw [run_equalIn_array w 9999 _ _ Tryz.underlying48 hi]
  have hc : Tryz.prog.cellsOf 2 = 1 := by kernel_rfl
  rw [hc, show List.range 10 = [0, 1, 2, 3, 4, 5, 6, 7, 8, 9] from rfl]
  have e1 : ∀ (a : Int) (w : World), (Op.equalIn 9999 2 (.int .i64 a) (.int .i64 a)).run Tryz.prog w = .ok true w := fun a w => (run_equalIn_int w 9998 2 .i64 .i64 a a Tryz.underlying2).trans (by simp)
  simp [Op.eqItems, Sem.run_bind, part, agg_i64E, e1]
/-- Three bytes against themselves. -/
theorem mk3_same (x y z : Int) (w : World) : (Op.equalIn 9999 28 (.agg #[.int .u8 x, .int .u8 y, .int .u8 z]) (.agg #[.int .u8 x, .int .u8 y, .int .u8 z])).run Tryz.prog w = .ok true w :=
  (arr3_eq x y z x y z w).trans (by simp)
end Go.Proofs.YtkilblnlplfknaaGreatDoor
end
section
/- Texts in plain Lean: digits, pieces between separators, numbers read. -/
namespace Go.Proofs.YtkilblnlplfknaaGreatDoor
open Go.RowKit Go.Proofs.YtkilblnlplfknaaGreatDoorW.PrintWords Go.Proofs.YtkilblnlplfknaaGreatDoorW.PrintMore
set_option linter.unusedVariables false
set_option linter.unusedSimpArgs false
set_option maxRecDepth 100000

open Go.Lib (decDigits itoa atoi atoiAll decFrom decNat digitVal NumEnd)
abbrev Bs := List UInt8
/-- The digits of a number that is at least 0. -/
def dg (n : Int) : Bs := decDigits n.toNat
def bS (l : Bs) : ByteArray := ⟨l.toArray⟩
theorem bS_toList (l : Bs) : (bS l).data.toList = l := by unfold bS; simp
theorem bS_of (s : ByteArray) : bS s.data.toList = s := by unfold bS; cases s; simp
theorem bS_inj {a b : Bs} (h : bS a = bS b) : a = b := by have := congrArg (fun s : ByteArray => s.data.toList) h; simpa [bS_toList] using this
theorem bS_append (a b : Bs) : bS a ++ bS b = bS (a ++ b) := by
  apply ByteArray.ext
  simp [bS, ByteArray.data_append]
theorem itoa_dg {n : Int} (h : 0 ≤ n) : itoa n = dg n := by unfold itoa dg; rw [if_neg (by omega)]
/-- Each sign of a number's digits is a digit. -/
theorem dd_digit : ∀ (u : Nat) (x : UInt8), x ∈ decDigits u → 48 ≤ x.toNat ∧ x.toNat ≤ 57 := by
  intro u
  induction u using Nat.strongRecOn with
  | ind u ih =>
    intro x hx
    rw [decDigits] at hx
    split at hx
    · rename_i h
      rw [List.mem_singleton] at hx
      subst hx
      rw [UInt8.toNat_ofNat']
      omega
    · rename_i h
      rcases List.mem_append.1 hx with h1 | h1
      · exact ih (u / 10) (by omega) x h1
      · rw [List.mem_singleton] at h1
        subst h1
        rw [UInt8.toNat_ofNat']
        omega
theorem dg_digit {n : Int} {x : UInt8} (h : x ∈ dg n) : 48 ≤ x.toNat ∧ x.toNat ≤ 57 := dd_digit _ _ h
theorem dd_ne (u : Nat) : decDigits u ≠ [] := by
  rw [decDigits]
  split
  · exact List.cons_ne_nil _ _
  · exact List.append_ne_nil_of_right_ne_nil _ (List.cons_ne_nil _ _)
theorem decFrom_app (l : Bs) : ∀ (a : Nat) (x : UInt8), decFrom a (l ++ [x]) = (decFrom a l).bind fun n => (digitVal x).map fun d => n * 10 + d := by
  induction l with
  | nil =>
    intro a x
    simp only [List.nil_append, decFrom, Option.bind_some]
    cases digitVal x <;> rfl
  | cons y l ih =>
    intro a x
    rw [List.cons_append, decFrom, decFrom]
    cases h : digitVal y with
    | none => rfl
    | some d => exact ih _ x
theorem digitVal_dig (d : Nat) (h : d < 10) : digitVal (UInt8.ofNat (48 + d)) = some d := by
  unfold digitVal
  rw [UInt8.toNat_ofNat']
  rw [if_pos (by omega)]
  congr 1
  omega
/-- Digits are read back. -/
theorem dd_read : ∀ u : Nat, decFrom 0 (decDigits u) = some u := by
  intro u
  induction u using Nat.strongRecOn with
  | ind u ih =>
    rw [decDigits]
    split
    · rename_i h
      rw [decFrom, digitVal_dig u h]
      simp [decFrom]
    · rename_i h
      rw [decFrom_app, ih (u / 10) (by omega), Option.bind_some, digitVal_dig _ (by omega)]
      simp only [Option.map_some, Option.some.injEq]
      omega
/-- The first digit of a number above 9 is not 0. -/
theorem dd_len_le : ∀ (k u : Nat), u < 10 ^ (k + 1) → (decDigits u).length ≤ k + 1 := by
  intro k
  induction k with
  | zero =>
    intro u h
    rw [decDigits, dif_pos (by simpa using h)]
    simp
  | succ k ih =>
    intro u h
    rw [decDigits]
    split
    · simp
    · have := ih (u / 10) (by rw [Nat.pow_succ] at h; omega)
      simp only [List.length_append, List.length_cons, List.length_nil]
      omega
theorem head_app {a b : Bs} (h : a ≠ []) : (a ++ b).head? = a.head? := by
  cases a with
  | nil => exact absurd rfl h
  | cons x r => rfl
theorem dd_head : ∀ u : Nat, (decDigits u).head? = some 48 → u = 0 := by
  intro u
  induction u using Nat.strongRecOn with
  | ind u ih =>
    intro h
    rw [decDigits] at h
    split at h
    · rename_i hu
      simp only [List.head?_cons, Option.some.injEq] at h
      have := congrArg UInt8.toNat h
      rw [UInt8.toNat_ofNat'] at this
      simp at this
      omega
    · rename_i hu
      rw [head_app (dd_ne _)] at h
      have := ih (u / 10) (by omega) h
      omega
/-- What is read is written back, if it bears no 0 ahead. -/
theorem dd_back : ∀ (l : Bs) (n : Nat), l ≠ [] → decFrom 0 l = some n → (l.head? = some 48 → l.length ≤ 1) → decDigits n = l := by
  intro l
  induction hn : l.length using Nat.strongRecOn generalizing l with
  | ind k ih =>
    intro n h0 hr hz
    rcases List.eq_nil_or_concat l with rfl | ⟨m, x, rfl⟩
    · exact absurd rfl h0
    · rw [List.concat_eq_append] at hn hr hz ⊢
      rw [decFrom_app] at hr
      obtain ⟨a, ha, hr⟩ := Option.bind_eq_some_iff.1 hr
      obtain ⟨d, hd, rfl⟩ := Option.map_eq_some_iff.1 hr
      obtain ⟨d1, d2, d3⟩ := Go.Lib.digitVal_eq hd
      have hx : UInt8.ofNat (48 + d) = x := by
        apply UInt8.toNat_inj.1
        rw [UInt8.toNat_ofNat']
        omega
      by_cases hm : m = []
      · subst hm
        simp only [decFrom, Option.some.injEq] at ha
        subst ha
        rw [decDigits, dif_pos (by omega), Nat.zero_mul, Nat.zero_add, hx]
        rfl
      · have hl : m.length < k := by rw [← hn]; simp
        have hm1 : 1 ≤ m.length := List.length_pos_iff.2 hm
        have hzm : m.head? = some 48 → m.length ≤ 1 := by
          intro e
          have := hz (by rw [head_app hm]; exact e)
          rw [← hn] at this
          simp only [List.length_append, List.length_singleton] at this
          omega
        have hb := ih m.length hl m rfl a hm ha hzm
        have ha0 : a ≠ 0 := by
          rintro rfl
          have h48 : m.head? = some 48 := by rw [← hb, decDigits, dif_pos (by omega)]; rfl
          have := hz (by rw [head_app hm]; exact h48)
          rw [← hn] at this
          simp only [List.length_append, List.length_singleton] at this
          omega
        rw [decDigits, dif_neg (by omega), show (a * 10 + d) / 10 = a by omega, show (a * 10 + d) % 10 = d by omega, hb, hx]
/-- strconv's reading of digits. -/
theorem atoi_dg {n : Int} (h0 : 0 ≤ n) (h1 : n < 1000000000000000000) : Go.Lib.parseIntB 64 (dg n) = .ok n := by
  rw [Go.Lib.parseIntB_64, Go.Lib.atoiAll_short _ (by have := dd_len_le 17 n.toNat (by omega); unfold dg; omega)]
  have hr := dd_read n.toNat
  have hne := dd_ne n.toNat
  have hd := dd_digit n.toNat
  unfold dg
  generalize decDigits n.toNat = l at hr hne hd ⊢
  cases l with
  | nil => exact absurd rfl hne
  | cons x r =>
    have hx := hd x (by simp)
    have h45 : (x == 45) = false := by
      apply beq_eq_false_iff_ne.2; rintro rfl; simp at hx
    have h43 : (x == 43) = false := by
      apply beq_eq_false_iff_ne.2; rintro rfl; simp at hx
    have hnat : decNat (x :: r) = some n.toNat := by
      unfold decNat
      rw [if_neg (by simp)]
      exact hr
    have e : atoi (x :: r) = some n := by
      show (if x == 45 then (decNat r).map fun (m : Nat) => -(m : Int) else if x == 43 then (decNat r).map fun (m : Nat) => (m : Int) else (decNat (x :: r)).map fun (m : Nat) => (m : Int)) = some n
      rw [h45, h43, hnat]
      simp only [Bool.false_eq_true, if_false, Option.map_some, Option.some.injEq]
      omega
    rw [e]
    rfl
/-- The reference's reading: at most nine digits, none of them a 0 ahead of others. -/
def numL (l : Bs) : Option Nat := if l = [] ∨ 9 < l.length ∨ (l.head? = some 48 ∧ 1 < l.length) then none else decFrom 0 l
theorem numL_dg {n : Int} (h0 : 0 ≤ n) (h1 : n < 1000000000) : numL (dg n) = some n.toNat := by
  unfold numL
  rw [if_neg]
  · exact dd_read _
  · rintro (h | h | ⟨h, h2⟩)
    · exact dd_ne _ h
    · have := dd_len_le 8 n.toNat (by omega)
      unfold dg at h
      omega
    · have := dd_head _ h
      unfold dg at h2
      rw [this, decDigits, dif_pos (by omega)] at h2
      exact absurd h2 (by simp)
theorem numL_back {l : Bs} {n : Nat} (h : numL l = some n) : dg n = l := by
  unfold numL at h
  split at h
  · cases h
  · rename_i hc
    exact dd_back l n (fun e => hc (.inl e)) h (fun e => by
      by_cases hl : l.length ≤ 1
      · exact hl
      · exact absurd (.inr (.inr ⟨e, by omega⟩)) hc)
theorem numL_lt {l : Bs} {n : Nat} (h : numL l = some n) : n < 1000000000 := by
  unfold numL at h
  split at h
  · cases h
  · rename_i hc
    have hl : l.length ≤ 9 := by
      by_cases hl : l.length ≤ 9
      · exact hl
      · exact absurd (.inr (.inl (by omega))) hc
    have h1 := Go.Lib.decFrom_lt l 0 n h
    have h2 : 10 ^ l.length ≤ 10 ^ 9 := Nat.pow_le_pow_right (by decide) hl
    omega
/-- The pieces between separators. -/
def splitL (c : UInt8) : Bs → List Bs
  | [] => [[]]
  | x :: l => if x = c then [] :: splitL c l else match splitL c l with
    | [] => [[x]]
    | w :: r => (x :: w) :: r
theorem splitL_ne (c : UInt8) (l : Bs) : splitL c l ≠ [] := by
  cases l with
  | nil => exact List.cons_ne_nil _ _
  | cons x l =>
    rw [splitL]
    split
    · exact List.cons_ne_nil _ _
    · split <;> exact List.cons_ne_nil _ _
theorem splitL_none {c : UInt8} : ∀ {l : Bs}, c ∉ l → splitL c l = [l]
  | [], _ => rfl
  | x :: l, h => by
    have hx : x ≠ c := fun e => h (by simp [e])
    rw [splitL, if_neg hx, splitL_none (l := l) (fun hm => h (by simp [hm]))]
theorem splitL_cons {c : UInt8} (r : Bs) : ∀ {a : Bs}, c ∉ a → splitL c (a ++ c :: r) = a :: splitL c r
  | [], _ => by rw [List.nil_append, splitL, if_pos rfl]
  | x :: a, h => by
    have hx : x ≠ c := fun e => h (by simp [e])
    rw [List.cons_append, splitL, if_neg hx, splitL_cons r (a := a) (fun hm => h (by simp [hm]))]
/-- Pieces, with the separator between them. -/
def joinL (c : UInt8) : List Bs → Bs
  | [] => []
  | [a] => a
  | a :: b :: r => a ++ c :: joinL c (b :: r)
theorem joinL_split (c : UInt8) : ∀ l : Bs, joinL c (splitL c l) = l
  | [] => rfl
  | x :: l => by
    have ih := joinL_split c l
    have hne := splitL_ne c l
    rw [splitL]
    split
    · rename_i hx
      subst hx
      cases hs : splitL x l with
      | nil => exact absurd hs hne
      | cons w r =>
        rw [hs] at ih
        rw [joinL, ih]
        rfl
    · cases hs : splitL c l with
      | nil => exact absurd hs hne
      | cons w r =>
        rw [hs] at ih
        cases r with
        | nil =>
          simp only [joinL] at ih ⊢
          rw [ih]
        | cons b r =>
          simp only [joinL] at ih ⊢
          rw [List.cons_append, ih]
/-- Pieces that bear no separator are found again. -/
theorem splitL_join {c : UInt8} : ∀ {ws : List Bs}, ws ≠ [] → (∀ w, w ∈ ws → c ∉ w) → splitL c (joinL c ws) = ws
  | [], h, _ => absurd rfl h
  | [a], _, h => splitL_none (h a (by simp))
  | a :: b :: r, _, h => by
    rw [joinL, splitL_cons _ (h a (by simp)), splitL_join (ws := b :: r) (List.cons_ne_nil _ _) (fun w hw => h w (by simp at hw ⊢; exact .inr hw))]
/-- The library's pieces. -/
theorem index_one (c : UInt8) : ∀ l : Bs, (Go.Lib.index l [c] = -1 ∧ c ∉ l) ∨ ∃ a r, l = a ++ c :: r ∧ c ∉ a ∧ Go.Lib.index l [c] = (a.length : Int)
  | l => by
    rcases Go.Lib.index_spec l [c] with ⟨h1, h2⟩ | ⟨i, h1, hi, h2, h3⟩
    · refine .inl ⟨h1, fun hm => ?_⟩
      obtain ⟨j, hj⟩ := List.mem_iff_getElem?.1 hm
      have hjl : j < l.length := (List.getElem?_eq_some_iff.1 hj).1
      have := h2 j (by omega)
      unfold Go.Lib.occAt at this
      rw [List.drop_eq_getElem_cons hjl] at this
      have e := (List.getElem?_eq_some_iff.1 hj).2
      rw [e] at this
      simp at this
    · have hc := Go.Lib.occAt_head (t := []) rfl h2
      have hil : i < l.length := (List.getElem?_eq_some_iff.1 hc).1
      have e := (List.getElem?_eq_some_iff.1 hc).2
      refine .inr ⟨l.take i, l.drop (i + 1), ?_, ?_, ?_⟩
      · exact ((List.take_append_drop i l).symm).trans (by rw [List.drop_eq_getElem_cons hil, e])
      · intro hm
        obtain ⟨j, hj⟩ := List.mem_iff_getElem?.1 hm
        have hjl : j < (l.take i).length := (List.getElem?_eq_some_iff.1 hj).1
        rw [List.length_take] at hjl
        rw [List.getElem?_take_of_lt (by omega)] at hj
        have hb := h3 j (by omega)
        have hjl2 : j < l.length := by omega
        unfold Go.Lib.occAt at hb
        rw [List.drop_eq_getElem_cons hjl2] at hb
        have e2 := (List.getElem?_eq_some_iff.1 hj).2
        rw [e2] at hb
        simp at hb
      · rw [h1, List.length_take]
        omega
theorem splitK_one (c : UInt8) : ∀ (l : Bs) (k : Nat), Go.Lib.count l [c] ≤ k → Go.Lib.splitK [c] 0 k l = splitL c l := by
  intro l
  induction hn : l.length using Nat.strongRecOn generalizing l with
  | ind n ih =>
    intro k hk
    rcases index_one c l with ⟨h1, h2⟩ | ⟨a, r, rfl, ha, h1⟩
    · rw [splitL_none h2]
      cases k with
      | zero => rfl
      | succ k => rw [Go.Lib.splitK, h1, if_pos (by decide)]
    · have hc := Go.Lib.count_hit (List.cons_ne_nil c []) h1
      have hd : (a ++ c :: r).drop (a.length + [c].length) = r := by
        rw [List.length_singleton, ← List.drop_drop, List.drop_left]
        rfl
      rw [hd] at hc
      cases k with
      | zero => omega
      | succ k =>
        rw [Go.Lib.splitK, h1, if_neg (by simp), splitL_cons r ha, Int.toNat_natCast, hd, Nat.add_zero, List.take_left]
        rw [ih r.length (by rw [← hn]; simp; omega) r rfl k (by omega)]
theorem splitB_one (c : UInt8) (s : ByteArray) : (Go.Lib.splitB (bS [c]) 0 (Go.Lib.countB s (bS [c])) s).map (·.data.toList) = splitL c s.data.toList := by
  rw [Go.Lib.splitB_data]
  exact splitK_one c _ _ (Nat.le_refl _)
theorem cut_one {c : UInt8} {a r : Bs} (h : c ∉ a) : Go.Lib.cut (a ++ c :: r) [c] = (a, r, true) := by
  have hi : Go.Lib.index (a ++ c :: r) [c] = (a.length : Int) := by
    rcases index_one c (a ++ c :: r) with ⟨_, h2⟩ | ⟨a', r', e, ha, h1⟩
    · exact absurd (by simp) h2
    · have h3 := splitL_cons (c := c) r h
      rw [e, splitL_cons r' ha] at h3
      rw [h1]
      simp only [List.cons.injEq] at h3
      rw [h3.1]
  unfold Go.Lib.cut
  rw [hi, if_pos (by omega), Int.toNat_natCast, List.take_left, List.length_singleton, ← List.drop_drop, List.drop_left]
  rfl
theorem map_back {α : Type} {f : α → α} : ∀ {l : List α}, (∀ x, x ∈ l → f x = x) → l.map f = l
  | [], _ => rfl
  | a :: l, h => by rw [List.map_cons, h a (by simp), map_back (fun x hx => h x (by simp [hx]))]
theorem joinL_snoc (c : UInt8) : ∀ (ws : List Bs) (w : Bs), ws ≠ [] → joinL c (ws ++ [w]) = joinL c ws ++ c :: w
  | [], _, h => absurd rfl h
  | [a], w, _ => rfl
  | a :: b :: r, w, _ => by
    have := joinL_snoc c (b :: r) w (List.cons_ne_nil _ _)
    rw [List.cons_append, List.cons_append, joinL, ← List.cons_append, this, joinL, List.append_assoc, List.cons_append]
theorem joinL_len {c : UInt8} {k : Nat} : ∀ {ws : List Bs}, (∀ w, w ∈ ws → w.length ≤ k) → (joinL c ws).length ≤ (k + 1) * ws.length
  | [], _ => by simp [joinL]
  | [a], h => by
    have := h a (by simp)
    simp only [joinL, List.length_singleton]
    omega
  | a :: b :: r, h => by
    have h1 := h a (by simp)
    have h2 := joinL_len (c := c) (k := k) (ws := b :: r) (fun w hw => h w (by simp at hw ⊢; exact .inr hw))
    rw [joinL, List.length_append, List.length_cons, List.length_cons, Nat.mul_add]
    omega
theorem dg_len {n : Int} (k : Nat) (h0 : 0 ≤ n) (h : n.toNat < 10 ^ (k + 1)) : (dg n).length ≤ k + 1 := dd_len_le k n.toNat h
theorem join_joinL (c : UInt8) : ∀ ws : List Bs, Go.Lib.join ws [c] = joinL c ws
  | [] => rfl
  | [a] => by rw [Go.Lib.join_one]; rfl
  | a :: b :: r => by
    have ih := join_joinL c (b :: r)
    rw [Go.Lib.join_cons] at ih ⊢
    rw [joinL, ← ih]
    simp [Go.Lib.joinTail]
theorem dd_inj {u v : Nat} (h : decDigits u = decDigits v) : u = v := by
  have h1 := dd_read u
  rw [h, dd_read] at h1
  exact (Option.some.inj h1).symm
theorem dg_inj {n m : Int} (h0 : 0 ≤ n) (h1 : 0 ≤ m) (h : dg n = dg m) : n = m := by have := dd_inj h; omega
theorem not_dig {n : Int} {x : UInt8} (h : x.toNat < 48 ∨ 57 < x.toNat) : x ∉ dg n := fun hm => by have := dg_digit hm; omega
theorem map_dg_inj : ∀ {E F : List Int}, (∀ x, x ∈ E → 0 ≤ x) → (∀ x, x ∈ F → 0 ≤ x) → E.map dg = F.map dg → E = F
  | [], [], _, _, _ => rfl
  | [], _ :: _, _, _, h => by cases h
  | _ :: _, [], _, _, h => by cases h
  | a :: E, b :: F, h1, h2, h => by
    simp only [List.map_cons, List.cons.injEq] at h
    rw [dg_inj (h1 a (by simp)) (h2 b (by simp)) h.1, map_dg_inj (fun x hx => h1 x (by simp [hx])) (fun x hx => h2 x (by simp [hx])) h.2]
/-- What strconv reads, and whether it is written so. -/
def rdN (l : Bs) : Int := match Go.Lib.parseIntB 64 l with
  | .ok v => v
  | .range => Go.Lib.intSat 64 l
  | _ => 0
def rdOk (l : Bs) : Bool := match Go.Lib.parseIntB 64 l with
  | .ok v => itoa v == l
  | _ => false
theorem rd_dg {n : Int} (h0 : 0 ≤ n) (h1 : n < 1000000000000000000) : rdN (dg n) = n ∧ rdOk (dg n) = true := by
  unfold rdN rdOk
  rw [atoi_dg h0 h1]
  refine ⟨rfl, ?_⟩
  show (itoa n == dg n) = true
  rw [itoa_dg h0]
  exact beq_self_eq_true _
theorem rd_back {l : Bs} (h : rdOk l = true) (h0 : 0 ≤ rdN l) : dg (rdN l) = l := by
  unfold rdOk at h
  unfold rdN at h0 ⊢
  split at h
  · rename_i v hv
    rw [hv] at h0 ⊢
    rw [← itoa_dg h0]
    exact eq_of_beq h
  · cases h
theorem rdN_bd (l : Bs) : -9223372036854775808 ≤ rdN l ∧ rdN l ≤ 9223372036854775807 := by
  unfold rdN
  split
  · rename_i v hv
    rw [Go.Lib.parseIntB_64] at hv
    exact Go.Lib.atoiAll_bounds hv
  · rw [Go.Lib.intSat_64]
    exact Go.Lib.atoiSat_bounds l
  · omega
def shN (l : Bs) : Int := if (rdOk l && inR (rdN l) 0 32767) = true then rdN l else -1
theorem shN_dg {n : Int} (h0 : 0 ≤ n) (h1 : n ≤ 32767) : shN (dg n) = n := by
  obtain ⟨e1, e2⟩ := rd_dg h0 (by omega : n < 1000000000000000000)
  unfold shN
  rw [e1, e2, if_pos]
  simp [inR]
  omega
theorem shN_bd (l : Bs) : -1 ≤ shN l ∧ shN l ≤ 32767 := by
  unfold shN
  split
  · rename_i h
    simp only [Bool.and_eq_true, inR, decide_eq_true_eq] at h
    omega
  · omega
end Go.Proofs.YtkilblnlplfknaaGreatDoor
end
section
/- The shelf's contracts at this dump, in plain words (laid by the kit's lay-shelf and lay-plain; pruned). No condition. -/
namespace Go.Proofs
open Go.Shelf
def Tryz.lays169_ren : Go.Shelf.Ren := ⟨fun | 169 => 94 | n => n, fun | 70 => 116 | 9 => 9 | 0 => 0 | 72 => 118 | 37 => 22 | 127 => 137 | 3 => 3 | 5 => 5 | n => n, fun | n => n⟩
theorem Tryz.lays169 : Go.Proofs.Lays.n169 Tryz.prog Tryz.lays169_ren := {
  mixed := by kernel_rfl
  f169 := Tryz.func94.trans (congrArg some (by kernel_rfl))
  t0 := Tryz.underlying0
  a0 := Tryz.isAgg0
  z0 := Tryz.sizeOf0
  v0 := Tryz.zeroValue0
  t3 := Tryz.underlying3
  a3 := Tryz.isAgg3
  z3 := Tryz.sizeOf3
  v3 := Tryz.zeroValue3
  t9 := Tryz.underlying9
  a9 := Tryz.isAgg9
  z9 := Tryz.sizeOf9
  v9 := Tryz.zeroValue9
  t37 := Tryz.underlying22
  a37 := Tryz.isAgg22
  z37 := Tryz.sizeOf22
  v37 := Tryz.zeroValue22
  t70 := Tryz.underlying116
  a70 := Tryz.isAgg116
  z70 := Tryz.sizeOf116
  v70 := Tryz.zeroValue116
  t72 := Tryz.underlying118
  a72 := Tryz.isAgg118
  z72 := Tryz.sizeOf118
  v72 := Tryz.zeroValue118
  t127 := Tryz.underlying137
  a127 := Tryz.isAgg137
  z127 := Tryz.sizeOf137
  v127 := Tryz.zeroValue137 }
theorem Tryz.Builder_Extra_169 : Builder.Extra Tryz.prog Tryz.lays169_ren := {
  sizeBuilder := by kernel_rfl
  liesBuilder := by kernel_rfl
  t5 := Tryz.underlying5
  a5 := Tryz.isAgg5
  z5 := Tryz.sizeOf5
  v5 := Tryz.zeroValue5
  infoByte := by kernel_rfl
  cellsByte := by kernel_rfl
  sizeByte := by kernel_rfl
  neB5 := by decide }
def Tryz.lays156_ren : Go.Shelf.Ren := ⟨fun | 156 => 74 | 165 => 92 | 166 => 93 | 169 => 94 | 240 => 108 | 241 => 109 | 276 => 123 | 277 => 124 | n => n, fun | 31 => 98 | 9 => 9 | 3 => 3 | 4 => 4 | 0 => 0 | 20 => 20 | 72 => 118 | 76 => 122 | 70 => 116 | 37 => 22 | 75 => 121 | 127 => 137 | 164 => 146 | 5 => 5 | 80 => 124 | n => n, fun | n => n⟩
theorem Tryz.lays156 : Go.Proofs.Lays.n156 Tryz.prog Tryz.lays156_ren := {
  mixed := by kernel_rfl
  f156 := Tryz.func74.trans (congrArg some (by kernel_rfl))
  f165 := Tryz.func92.trans (congrArg some (by kernel_rfl))
  f166 := Tryz.func93.trans (congrArg some (by kernel_rfl))
  f169 := Tryz.func94.trans (congrArg some (by kernel_rfl))
  f240 := Tryz.func108.trans (congrArg some (by kernel_rfl))
  f241 := Tryz.func109.trans (congrArg some (by kernel_rfl))
  f276 := Tryz.func123.trans (congrArg some (by kernel_rfl))
  f277 := Tryz.func124.trans (congrArg some (by kernel_rfl))
  t0 := Tryz.underlying0
  a0 := Tryz.isAgg0
  z0 := Tryz.sizeOf0
  v0 := Tryz.zeroValue0
  t3 := Tryz.underlying3
  a3 := Tryz.isAgg3
  z3 := Tryz.sizeOf3
  v3 := Tryz.zeroValue3
  t4 := Tryz.underlying4
  a4 := Tryz.isAgg4
  z4 := Tryz.sizeOf4
  v4 := Tryz.zeroValue4
  t9 := Tryz.underlying9
  a9 := Tryz.isAgg9
  z9 := Tryz.sizeOf9
  v9 := Tryz.zeroValue9
  t20 := Tryz.underlying20
  a20 := Tryz.isAgg20
  z20 := Tryz.sizeOf20
  v20 := Tryz.zeroValue20
  t31 := Tryz.underlying98
  a31 := Tryz.isAgg98
  z31 := Tryz.sizeOf98
  v31 := Tryz.zeroValue98
  t37 := Tryz.underlying22
  a37 := Tryz.isAgg22
  z37 := Tryz.sizeOf22
  v37 := Tryz.zeroValue22
  t70 := Tryz.underlying116
  a70 := Tryz.isAgg116
  z70 := Tryz.sizeOf116
  v70 := Tryz.zeroValue116
  t72 := Tryz.underlying118
  a72 := Tryz.isAgg118
  z72 := Tryz.sizeOf118
  v72 := Tryz.zeroValue118
  t75 := Tryz.underlying121
  a75 := Tryz.isAgg121
  z75 := Tryz.sizeOf121
  v75 := Tryz.zeroValue121
  t76 := Tryz.underlying122
  a76 := Tryz.isAgg122
  z76 := Tryz.sizeOf122
  v76 := Tryz.zeroValue122
  t127 := Tryz.underlying137
  a127 := Tryz.isAgg137
  z127 := Tryz.sizeOf137
  v127 := Tryz.zeroValue137
  t164 := Tryz.underlying146
  a164 := Tryz.isAgg146
  z164 := Tryz.sizeOf146
  v164 := Tryz.zeroValue146 }
theorem Tryz.Builder_Extra_156 : Builder.Extra Tryz.prog Tryz.lays156_ren := {
  sizeBuilder := by kernel_rfl
  liesBuilder := by kernel_rfl
  t5 := Tryz.underlying5
  a5 := Tryz.isAgg5
  z5 := Tryz.sizeOf5
  v5 := Tryz.zeroValue5
  infoByte := by kernel_rfl
  cellsByte := by kernel_rfl
  sizeByte := by kernel_rfl
  neB5 := by decide }
open Go.RowKit in
/-- A contract of the shelf at this dump. -/
theorem Tryz.strings_Join_none (a : Option Addr) (c : Nat) (sep : ByteArray) (w : World) :
    Calls Tryz.prog 74 #[.slice a 0 c, .string sep] w fun e w' => e = .returned (.string ⟨#[]⟩) ∧ w' = w := Any.strings_Join_none Tryz.lays156 Tryz.Builder_Extra_156 a c sep w
open Go.RowKit in
/-- A contract of the shelf at this dump. -/
theorem Tryz.strings_Join (bk o c : Nat) (xs : List ByteArray) (sep : ByteArray) (w : World) (hcells : ∀ (j : Nat) x, xs[j]? = some x → w.cell? ⟨bk, o + j, none⟩ = some (.string x)) (hbk : bk < w.heap.size) (hN : xs.length ≤ 140737488355328) (hcap : xs.length ≤ c) (hlen : (Lib.join (xs.map (·.data.toList)) sep.data.toList).length ≤ 140737488355328) :
    Calls Tryz.prog 74 #[.slice (some ⟨bk, o, none⟩) xs.length c, .string sep] w fun e w' => e = .returned (.string ⟨(Lib.join (xs.map (·.data.toList)) sep.data.toList).toArray⟩) ∧ Below w.heap.size w w' := Any.strings_Join Tryz.lays156 Tryz.Builder_Extra_156 bk o c xs sep w hcells hbk hN hcap hlen
open Go.RowKit in
/-- A contract of the shelf at this dump. -/
theorem Tryz.Builder_String_k (B b : Nat) (l : List UInt8) (w : World) (h : Lib.IsBuilderF 118 5 B b (Lib.byteCells l) w) (h0 : l ≠ []) :
    Calls Tryz.prog 94 #[.pointer (some ⟨b, 0, none⟩)] w fun e w' => e = .returned (.string ⟨l.toArray⟩) ∧ (Lib.IsBuilderF 118 5 B b (Lib.byteCells l) w' ∧ Below B w w' ∧ Lib.OthersKept 5 (some b) w w') := Any.Builder_String_k Tryz.lays169 Tryz.Builder_Extra_169 B b l w h h0
open Go.RowKit in
/-- A contract of the shelf at this dump. -/
theorem Tryz.Builder_String_empty_k (B b : Nat) (w : World) (h : Lib.IsBuilderF 118 5 B b [] w) (hBw : B ≤ w.heap.size) :
    Calls Tryz.prog 94 #[.pointer (some ⟨b, 0, none⟩)] w fun e w' => e = .returned (.string ⟨#[]⟩) ∧ (Lib.IsBuilderF 118 5 B b [] w' ∧ Below B w w' ∧ Lib.OthersKept 5 (some b) w w') := Any.Builder_String_empty_k Tryz.lays169 Tryz.Builder_Extra_169 B b w h hBw
open Go.RowKit in
/-- A contract of the shelf at this dump. -/
theorem Tryz.Builder_String_any_k (B b : Nat) (l : List UInt8) (w : World) (h : Lib.IsBuilderF 118 5 B b (Lib.byteCells l) w) (hBw : B ≤ w.heap.size) :
    Calls Tryz.prog 94 #[.pointer (some ⟨b, 0, none⟩)] w fun e w' => e = .returned (.string ⟨l.toArray⟩) ∧ (Lib.IsBuilderF 118 5 B b (Lib.byteCells l) w' ∧ Below B w w' ∧ Lib.OthersKept 5 (some b) w w') := Any.Builder_String_any_k Tryz.lays169 Tryz.Builder_Extra_169 B b l w h hBw
def Tryz.laysM173_ren : Go.Shelf.Ren := ⟨fun | 173 => 95 | 246 => 110 | 283 => 125 | 284 => 126 | 285 => 127 | 286 => 128 | 129 => 140 | 317 => 139 | 318 => 141 | 319 => 142 | 320 => 143 | 337 => 149 | 338 => 150 | n => n, fun | 2 => 2 | 3 => 3 | 9 => 9 | 4 => 4 | 171 => 150 | 0 => 0 | 53 => 84 | 37 => 22 | 5 => 5 | 173 => 153 | 212 => 165 | 51 => 155 | 20 => 20 | 213 => 166 | 46 => 112 | 232 => 183 | 233 => 184 | n => n, fun | 17 => 1 | 18 => 6 | 19 => 7 | n => n⟩
theorem Tryz.laysM173 : Go.Proofs.LaysM.n173 Tryz.prog Tryz.laysM173_ren := {
  mixed := by kernel_rfl
  f129 := Tryz.func140.trans (congrArg some (by kernel_rfl))
  f173 := Tryz.func95.trans (congrArg some (by kernel_rfl))
  f246 := Tryz.func110.trans (congrArg some (by kernel_rfl))
  f283 := Tryz.func125.trans (congrArg some (by kernel_rfl))
  f284 := Tryz.func126.trans (congrArg some (by kernel_rfl))
  f285 := Tryz.func127.trans (congrArg some (by kernel_rfl))
  f286 := Tryz.func128.trans (congrArg some (by kernel_rfl))
  f317 := Tryz.func139.trans (congrArg some (by kernel_rfl))
  f318 := Tryz.func141.trans (congrArg some (by kernel_rfl))
  f319 := Tryz.func142.trans (congrArg some (by kernel_rfl))
  f320 := Tryz.func143.trans (congrArg some (by kernel_rfl))
  f337 := Tryz.func149.trans (congrArg some (by kernel_rfl))
  f338 := Tryz.func150.trans (congrArg some (by kernel_rfl))
  t0 := Tryz.underlying0
  a0 := Tryz.isAgg0
  z0 := Tryz.sizeOf0
  v0 := Tryz.zeroValue0
  t2 := Tryz.underlying2
  a2 := Tryz.isAgg2
  z2 := Tryz.sizeOf2
  v2 := Tryz.zeroValue2
  t3 := Tryz.underlying3
  a3 := Tryz.isAgg3
  z3 := Tryz.sizeOf3
  v3 := Tryz.zeroValue3
  t4 := Tryz.underlying4
  a4 := Tryz.isAgg4
  z4 := Tryz.sizeOf4
  v4 := Tryz.zeroValue4
  t5 := Tryz.underlying5
  a5 := Tryz.isAgg5
  z5 := Tryz.sizeOf5
  v5 := Tryz.zeroValue5
  t9 := Tryz.underlying9
  a9 := Tryz.isAgg9
  z9 := Tryz.sizeOf9
  v9 := Tryz.zeroValue9
  t20 := Tryz.underlying20
  a20 := Tryz.isAgg20
  z20 := Tryz.sizeOf20
  v20 := Tryz.zeroValue20
  t37 := Tryz.underlying22
  a37 := Tryz.isAgg22
  z37 := Tryz.sizeOf22
  v37 := Tryz.zeroValue22
  t46 := Tryz.underlying112
  a46 := Tryz.isAgg112
  z46 := Tryz.sizeOf112
  v46 := Tryz.zeroValue112
  t51 := Tryz.underlying155
  a51 := Tryz.isAgg155
  z51 := Tryz.sizeOf155
  v51 := Tryz.zeroValue155
  t53 := Tryz.underlying84
  a53 := Tryz.isAgg84
  z53 := Tryz.sizeOf84
  v53 := Tryz.zeroValue84
  t171 := Tryz.underlying150
  a171 := Tryz.isAgg150
  z171 := Tryz.sizeOf150
  v171 := Tryz.zeroValue150
  t173 := Tryz.underlying153
  a173 := Tryz.isAgg153
  z173 := Tryz.sizeOf153
  v173 := Tryz.zeroValue153
  t212 := Tryz.underlying165
  a212 := Tryz.isAgg165
  z212 := Tryz.sizeOf165
  v212 := Tryz.zeroValue165
  t213 := Tryz.underlying166
  a213 := Tryz.isAgg166
  z213 := Tryz.sizeOf166
  t232 := Tryz.underlying183
  a232 := Tryz.isAgg183
  z232 := Tryz.sizeOf183
  v232 := Tryz.zeroValue183
  t233 := Tryz.underlying184
  a233 := Tryz.isAgg184
  z233 := Tryz.sizeOf184
  v233 := Tryz.zeroValue184
  g17 := by kernel_rfl
  g18 := by kernel_rfl
  g19 := by kernel_rfl
  i0 := by kernel_rfl
  i2 := by kernel_rfl
  i3 := by kernel_rfl
  i4 := by kernel_rfl
  i5 := by kernel_rfl
  i9 := by kernel_rfl
  i20 := by kernel_rfl
  i37 := by kernel_rfl
  i46 := by kernel_rfl
  i51 := by kernel_rfl
  i53 := by kernel_rfl
  i171 := by kernel_rfl
  i173 := by kernel_rfl
  i212 := by kernel_rfl
  i232 := by kernel_rfl
  i233 := by kernel_rfl
  m17 := by kernel_rfl
  m18 := by kernel_rfl
  m19 := by kernel_rfl }
open Go.RowKit Go.Sort Go.Lib in
/-- A contract of the shelf at this dump. -/
theorem Tryz.strconv_FormatInt_10 (n : Int) (h0 : -9223372036854775808 ≤ n) (h1 : n ≤ 9223372036854775807) (w : World) (htab : Lib.TabIs Tryz.prog w "internal/strconv.uint64pow10" .u64 Lib.pow10Tab) :
    Calls Tryz.prog 95 #[.int .i64 n, .int .i64 10] w fun e w' => e = .returned (.string ⟨(Lib.itoa n).toArray⟩) ∧ ∃ k os, w' = grow (w.drewN k) os := Any.strconv_FormatInt_10 Tryz.laysM173 n h0 h1 w htab
def Tryz.lays145_ren : Go.Shelf.Ren := ⟨fun | 145 => 72 | 220 => 90 | 219 => 105 | 217 => 117 | 225 => 118 | 224 => 119 | 267 => 120 | 266 => 132 | 314 => 133 | n => n, fun | 9 => 9 | 4 => 4 | 59 => 100 | 3 => 3 | 5 => 5 | 46 => 112 | 146 => 156 | 51 => 155 | n => n, fun | 1 => 0 | n => n⟩
theorem Tryz.lays145 : Go.Proofs.Lays.n145 Tryz.prog Tryz.lays145_ren := {
  mixed := by kernel_rfl
  f145 := Tryz.func72.trans (congrArg some (by kernel_rfl))
  f217 := Tryz.func117.trans (congrArg some (by kernel_rfl))
  f219 := Tryz.func105.trans (congrArg some (by kernel_rfl))
  f220 := Tryz.func90.trans (congrArg some (by kernel_rfl))
  f224 := Tryz.func119.trans (congrArg some (by kernel_rfl))
  f225 := Tryz.func118.trans (congrArg some (by kernel_rfl))
  f266 := Tryz.func132.trans (congrArg some (by kernel_rfl))
  f267 := Tryz.func120.trans (congrArg some (by kernel_rfl))
  f314 := Tryz.func133.trans (congrArg some (by kernel_rfl))
  t3 := Tryz.underlying3
  a3 := Tryz.isAgg3
  z3 := Tryz.sizeOf3
  v3 := Tryz.zeroValue3
  t4 := Tryz.underlying4
  a4 := Tryz.isAgg4
  z4 := Tryz.sizeOf4
  v4 := Tryz.zeroValue4
  t5 := Tryz.underlying5
  a5 := Tryz.isAgg5
  z5 := Tryz.sizeOf5
  v5 := Tryz.zeroValue5
  t9 := Tryz.underlying9
  a9 := Tryz.isAgg9
  z9 := Tryz.sizeOf9
  v9 := Tryz.zeroValue9
  t46 := Tryz.underlying112
  a46 := Tryz.isAgg112
  z46 := Tryz.sizeOf112
  v46 := Tryz.zeroValue112
  t51 := Tryz.underlying155
  a51 := Tryz.isAgg155
  z51 := Tryz.sizeOf155
  v51 := Tryz.zeroValue155
  t59 := Tryz.underlying100
  a59 := Tryz.isAgg100
  z59 := Tryz.sizeOf100
  v59 := Tryz.zeroValue100
  t146 := Tryz.underlying156
  a146 := Tryz.isAgg156
  z146 := Tryz.sizeOf156
  v146 := Tryz.zeroValue156
  g1 := by kernel_rfl }
open Go.RowKit Go.Lib in
/-- A contract of the shelf at this dump. -/
theorem Tryz.strings_Cut (s sep : ByteArray) (m : Int) (w : World) (hs : s.size < 4294967281) (hm : w.cell? ⟨0, 0, none⟩ = some (.int .i64 m)) :
    Calls Tryz.prog 72 #[.string s, .string sep] w fun e w' => e = .returned (.tuple #[.string ⟨(Lib.cut s.data.toList sep.data.toList).1.toArray⟩, .string ⟨(Lib.cut s.data.toList sep.data.toList).2.1.toArray⟩, .bool (Lib.cut s.data.toList sep.data.toList).2.2]) ∧ ∃ n, w' = w.drewN n := Any.strings_Cut Tryz.lays145 s sep m w hs hm
def Tryz.lays138_ren : Go.Shelf.Ren := ⟨fun | 138 => 103 | 195 => 114 | 218 => 116 | 143 => 104 | 219 => 105 | 217 => 117 | 225 => 118 | 224 => 119 | 267 => 120 | 266 => 132 | 314 => 133 | n => n, fun | 9 => 9 | 3 => 3 | 4 => 4 | 5 => 5 | 0 => 0 | 46 => 112 | 146 => 156 | 51 => 155 | n => n, fun | 1 => 0 | n => n⟩
theorem Tryz.lays138 : Go.Proofs.Lays.n138 Tryz.prog Tryz.lays138_ren := {
  mixed := by kernel_rfl
  f138 := Tryz.func103.trans (congrArg some (by kernel_rfl))
  f143 := Tryz.func104.trans (congrArg some (by kernel_rfl))
  f195 := Tryz.func114.trans (congrArg some (by kernel_rfl))
  f217 := Tryz.func117.trans (congrArg some (by kernel_rfl))
  f218 := Tryz.func116.trans (congrArg some (by kernel_rfl))
  f219 := Tryz.func105.trans (congrArg some (by kernel_rfl))
  f224 := Tryz.func119.trans (congrArg some (by kernel_rfl))
  f225 := Tryz.func118.trans (congrArg some (by kernel_rfl))
  f266 := Tryz.func132.trans (congrArg some (by kernel_rfl))
  f267 := Tryz.func120.trans (congrArg some (by kernel_rfl))
  f314 := Tryz.func133.trans (congrArg some (by kernel_rfl))
  t0 := Tryz.underlying0
  a0 := Tryz.isAgg0
  z0 := Tryz.sizeOf0
  v0 := Tryz.zeroValue0
  t3 := Tryz.underlying3
  a3 := Tryz.isAgg3
  z3 := Tryz.sizeOf3
  v3 := Tryz.zeroValue3
  t4 := Tryz.underlying4
  a4 := Tryz.isAgg4
  z4 := Tryz.sizeOf4
  v4 := Tryz.zeroValue4
  t5 := Tryz.underlying5
  a5 := Tryz.isAgg5
  z5 := Tryz.sizeOf5
  v5 := Tryz.zeroValue5
  t9 := Tryz.underlying9
  a9 := Tryz.isAgg9
  z9 := Tryz.sizeOf9
  v9 := Tryz.zeroValue9
  t46 := Tryz.underlying112
  a46 := Tryz.isAgg112
  z46 := Tryz.sizeOf112
  v46 := Tryz.zeroValue112
  t51 := Tryz.underlying155
  a51 := Tryz.isAgg155
  z51 := Tryz.sizeOf155
  v51 := Tryz.zeroValue155
  t146 := Tryz.underlying156
  a146 := Tryz.isAgg156
  z146 := Tryz.sizeOf156
  v146 := Tryz.zeroValue156
  g1 := by kernel_rfl }
open Go.RowKit Go.Lib in
/-- A contract of the shelf at this dump. -/
theorem Tryz.strings_Count_one (s : ByteArray) (c : UInt8) (w : World) :
    Calls Tryz.prog 103 #[.string s, .string ⟨#[c]⟩] w fun e w' => e = .returned (.int .i64 (Lib.countByte s.data.toList c)) ∧ w' = w := Any.strings_Count_one Tryz.lays138 s c w
def Tryz.lays146_ren : Go.Shelf.Ren := ⟨fun | 146 => 71 | 221 => 89 | 268 => 102 | 138 => 103 | 143 => 104 | 195 => 114 | 197 => 115 | 218 => 116 | 219 => 105 | 260 => 131 | 217 => 117 | 225 => 118 | 224 => 119 | 267 => 120 | 266 => 132 | 314 => 133 | n => n, fun | 9 => 9 | 31 => 98 | 3 => 3 | 4 => 4 | 0 => 0 | 105 => 141 | 21 => 21 | 5 => 5 | 46 => 112 | 119 => 169 | 139 => 172 | 138 => 171 | 146 => 156 | 51 => 155 | n => n, fun | 1 => 0 | 3 => 2 | 4 => 3 | n => n⟩
theorem Tryz.lays146 : Go.Proofs.Lays.n146 Tryz.prog Tryz.lays146_ren := {
  mixed := by kernel_rfl
  f138 := Tryz.func103.trans (congrArg some (by kernel_rfl))
  f143 := Tryz.func104.trans (congrArg some (by kernel_rfl))
  f146 := Tryz.func71.trans (congrArg some (by kernel_rfl))
  f195 := Tryz.func114.trans (congrArg some (by kernel_rfl))
  f197 := Tryz.func115.trans (congrArg some (by kernel_rfl))
  f217 := Tryz.func117.trans (congrArg some (by kernel_rfl))
  f218 := Tryz.func116.trans (congrArg some (by kernel_rfl))
  f219 := Tryz.func105.trans (congrArg some (by kernel_rfl))
  f221 := Tryz.func89.trans (congrArg some (by kernel_rfl))
  f224 := Tryz.func119.trans (congrArg some (by kernel_rfl))
  f225 := Tryz.func118.trans (congrArg some (by kernel_rfl))
  f260 := Tryz.func131.trans (congrArg some (by kernel_rfl))
  f266 := Tryz.func132.trans (congrArg some (by kernel_rfl))
  f267 := Tryz.func120.trans (congrArg some (by kernel_rfl))
  f268 := Tryz.func102.trans (congrArg some (by kernel_rfl))
  f314 := Tryz.func133.trans (congrArg some (by kernel_rfl))
  t0 := Tryz.underlying0
  a0 := Tryz.isAgg0
  z0 := Tryz.sizeOf0
  v0 := Tryz.zeroValue0
  t3 := Tryz.underlying3
  a3 := Tryz.isAgg3
  z3 := Tryz.sizeOf3
  v3 := Tryz.zeroValue3
  t4 := Tryz.underlying4
  a4 := Tryz.isAgg4
  z4 := Tryz.sizeOf4
  v4 := Tryz.zeroValue4
  t5 := Tryz.underlying5
  a5 := Tryz.isAgg5
  z5 := Tryz.sizeOf5
  v5 := Tryz.zeroValue5
  t9 := Tryz.underlying9
  a9 := Tryz.isAgg9
  z9 := Tryz.sizeOf9
  v9 := Tryz.zeroValue9
  t21 := Tryz.underlying21
  a21 := Tryz.isAgg21
  z21 := Tryz.sizeOf21
  v21 := Tryz.zeroValue21
  t31 := Tryz.underlying98
  a31 := Tryz.isAgg98
  z31 := Tryz.sizeOf98
  v31 := Tryz.zeroValue98
  t46 := Tryz.underlying112
  a46 := Tryz.isAgg112
  z46 := Tryz.sizeOf112
  v46 := Tryz.zeroValue112
  t51 := Tryz.underlying155
  a51 := Tryz.isAgg155
  z51 := Tryz.sizeOf155
  v51 := Tryz.zeroValue155
  t105 := Tryz.underlying141
  a105 := Tryz.isAgg141
  z105 := Tryz.sizeOf141
  v105 := Tryz.zeroValue141
  t119 := Tryz.underlying169
  a119 := Tryz.isAgg169
  z119 := Tryz.sizeOf169
  t138 := Tryz.underlying171
  a138 := Tryz.isAgg171
  z138 := Tryz.sizeOf171
  v138 := Tryz.zeroValue171
  t139 := Tryz.underlying172
  a139 := Tryz.isAgg172
  z139 := Tryz.sizeOf172
  v139 := Tryz.zeroValue172
  t146 := Tryz.underlying156
  a146 := Tryz.isAgg156
  z146 := Tryz.sizeOf156
  v146 := Tryz.zeroValue156
  g1 := by kernel_rfl
  g3 := by kernel_rfl
  g4 := by kernel_rfl }
open Go.RowKit Go.Lib in
/-- A contract of the shelf at this dump. -/
theorem Tryz.strings_Split (s sep : ByteArray) (m : Int) (w : World) (hs : s.size < 4294967281) (hm : w.cell? ⟨0, 0, none⟩ = some (.int .i64 m)) (h1 : 1 ≤ sep.size) :
    Calls Tryz.prog 71 #[.string s, .string sep] w fun e w' =>
      e = .returned (.slice (some ⟨w.heap.size, 0, none⟩) (Lib.countB s sep + 1) (Lib.countB s sep + 1)) ∧ w' = w.alloc (.cells ((Lib.splitB sep 0 (Lib.countB s sep) s).map Value.string).toArray 9) := Any.strings_Split Tryz.lays146 (by kernel_rfl) s sep m w hs hm h1
end Go.Proofs
end
section
/- What a number's digits want of the world; the digits that the program and the reference write. -/
namespace Go.Proofs.YtkilblnlplfknaaGreatDoor
open Go.RowKit Go.Proofs.YtkilblnlplfknaaGreatDoorW.PrintWords Go.Proofs.YtkilblnlplfknaaGreatDoorW.PrintMore
set_option linter.unusedVariables false
set_option linter.unusedSimpArgs false
set_option maxRecDepth 100000

/-- The library's table of powers lies as its text lays it. -/
def Tab (w : World) : Prop := Lib.TabIs Tryz.prog w "internal/strconv.uint64pow10" .u64 Lib.pow10Tab
theorem gPow : Tryz.prog.globalNamed "internal/strconv.uint64pow10" = some 1 := by kernel_rfl
theorem Tab.below {w w1 : World} (h : Tab w) (hb : Below w.heap.size w w1) : Tab w1 := Go.Joins.var_stays gPow h hb (Nat.le_refl _)
theorem bgrow (w : World) (k : Nat) (os : Array Obj) : Below w.heap.size w (Go.Sort.grow (w.drewN k) os) :=
  ⟨rfl, rfl, rfl, by show w.heap.size ≤ (w.heap ++ os).size; simp, fun j hj => by show (w.heap ++ os)[j]? = w.heap[j]?; exact Array.getElem?_append_left hj⟩
theorem fmt_c (n : Int) (h0 : 0 ≤ n) (h1 : n ≤ 9223372036854775807) (w : World) (ht : Tab w) : Calls Tryz.prog 95 #[.int .i64 n, .int .i64 10] w (Ret w (.string (bS (dg n)))) :=
  (Tryz.strconv_FormatInt_10 n (by omega) h1 w ht).mono fun e w' ⟨he, k, os, hw⟩ => ⟨by rw [he, itoa_dg h0]; rfl, by rw [hw]; exact bgrow w k os⟩
theorem dec16_c (n : Int) (h0 : 0 ≤ n) (h1 : n ≤ 32767) (w : World) (ht : Tab w) : Calls Tryz.prog 75 #[.int .i16 n] w (Ret w (.string (bS (dg n)))) := by
  have HF := Aside0.mk (fmt_c n h0 (by omega) w ht)
  have hw : IntKind.i64.wrap n = n := by rw [IntKind.wrap_i64]; omega
  clear ht
  go_enter Tryz.func75, Tryz.ntmps75
  go_wp2_with (go_at_call 95; refine HF.out.mono ?_; rintro _ w1 ⟨rfl, hb1⟩)
  go_ret
  exact ⟨rfl, hb1⟩
theorem ret_str {a b : ByteArray} (h : a = b) : Ending.returned (.string a) = .returned (.string b) := by rw [h]
/-- One byte's text. -/
theorem oneC (W : World) (g : Nat) (v : Int) (h : W.cell? ⟨g, 0, none⟩ = some (.int .u8 v)) : (Kd.int .u8).C W (some ⟨g, 0, none⟩) [v].length [v] := by
  refine ⟨rfl, by simp, fun _ => ⟨_, rfl, fun j p hj => ?_⟩⟩
  match j, hj with
  | 0, hj => cases hj; exact ⟨_, rfl, rfl, fun i u hu => by match i, hu with | 0, hu => cases hu; simpa [Addr.add] using h⟩
theorem one_conv {W : World} {g : Nat} {v : Int} (h : W.cell? ⟨g, 0, none⟩ = some (.int .u8 v)) (c : Nat) : (convert 22 9 (.slice (some ⟨g, 0, none⟩) 1 c)).run Tryz.prog W = .ok (.string (bS [UInt8.ofNat v.toNat])) W :=
  Kd.C_string (xs := [v]) Tryz.underlying22 Tryz.underlying5 Tryz.underlying9 (oneC W g v h)
theorem wrap_dig {k : Int} (h0 : 0 ≤ k) (h1 : k < 10) : IntKind.u8.wrap (48 + k) = 48 + k := by simp only [IntKind.wrap, IntKind.bits, IntKind.signed, Bool.false_and, Bool.false_eq_true, if_false]; omega
theorem dg_step {n : Int} (h : 10 ≤ n) : dg n = dg (n / 10) ++ [UInt8.ofNat (48 + n % 10).toNat] := by
  unfold dg
  conv => lhs; rw [Go.Lib.decDigits, dif_neg (by omega)]
  have e1 : n.toNat / 10 = (n / 10).toNat := by omega
  have e2 : 48 + n.toNat % 10 = (48 + n % 10).toNat := by omega
  rw [e1, e2]
theorem bS_size (a : Bs) : (bS a).size = a.length := by simp [bS, ByteArray.size]
theorem conv_new (v : Int) (W : World) (c : Nat) : (convert 22 9 (.slice (some ⟨W.heap.size, 0, none⟩) 1 c)).run Tryz.prog (W.alloc (.cells #[.int .u8 v] 5)) = .ok (.string (bS [UInt8.ofNat v.toNat])) (W.alloc (.cells #[.int .u8 v] 5)) := one_conv ((blk_cell (blk_new W _) 0).trans rfl) c
end Go.Proofs.YtkilblnlplfknaaGreatDoor
end
section
/- Rows of texts that a call makes; their join. -/
namespace Go.Proofs.YtkilblnlplfknaaGreatDoor
open Go.RowKit Go.Proofs.YtkilblnlplfknaaGreatDoorW.PrintWords Go.Proofs.YtkilblnlplfknaaGreatDoorW.PrintMore
set_option linter.unusedVariables false
set_option linter.unusedSimpArgs false
set_option maxRecDepth 100000

theorem info_str : (Tryz.prog.info? 9).map (fun i => (i.zero, i.size, i.bytes)) = some (some (.string ByteArray.empty), 1, 16) := by kernel_rfl
section
variable {ops : Array Oper} {rest : List Oper} {o : Oper} {a : Act} {Q : Exit → Act → World → Prop}
/-- append(out, s). -/
theorem str_append {w W : World} (hgd : o.guard = none) (s x : Operand) (ho : o.op = .call { callee := .builtin .append, args := #[s, x], argTypes := #[98, 98] }) (v : Value) (xs : List ByteArray) (n : ByteArray)
    (hs : a.eval s = v) (hx : a.eval x = .slice (some ⟨W.heap.size, 0, none⟩) 1 1) (HO : Kd.string.R 9 W w.heap.size (fun _ => True) v xs) (HB : Below w.heap.size w W) (hl : xs.length ≤ 2097152)
    (h : ∀ v1 w1, Kd.string.R 9 w1 w.heap.size (fun _ => True) v1 (xs ++ [n]) → Below w.heap.size w w1 → W.grownBy w1 v.ownBlock → wpList Tryz.prog ops Q rest (a.put o.dst v1) w1) :
    wpList Tryz.prog ops Q (o :: rest) a (W.alloc (.cells #[.string n] 9)) :=
  Kd.R_append Kd.string (w0 := w) w.heap.size hgd s x 98 9 (.string ByteArray.empty) 16 ho Tryz.underlying98 info_str rfl (by decide) (by decide) v xs n [.string n] (fun _ => True) (fun _ => False) hs hx rfl (fun _ h => h.elim) (fun _ _ => trivial) HO HB HB.size (by omega)
    (fun v1 w1 h1 h2 h3 _ => h v1 w1 h1 h2 h3)
end
/-- A row of texts joined. -/
theorem join_R (L : List Bs) (sep : Bs) (v : Value) (w0 w : World) (hne : L ≠ []) (h : Kd.string.R 9 w w0.heap.size (fun _ => True) v (L.map bS)) (hn : L.length ≤ 2097152) (hl : (Go.Lib.join L sep).length ≤ 1000000) :
    Calls Tryz.prog 74 #[v, .string (bS sep)] w (Ret w (.string (bS (Go.Lib.join L sep)))) := by
  have hp : 0 < (L.map bS).length := by rw [List.length_map]; exact List.length_pos_iff.2 hne
  obtain ⟨g, cap, rfl, _, hg, _⟩ := Kd.R_form h hp
  have hcap := (Kd.R_reads' h).2.1
  have e : (L.map bS).map (fun x : ByteArray => x.data.toList) = L := by rw [List.map_map]; exact map_back (fun x _ => bS_toList x)
  have hj := Tryz.strings_Join g 0 cap (L.map bS) (bS sep) w (fun j x hj => by
    have hjl : j < (L.map bS).length := (List.getElem?_eq_some_iff.1 hj).1
    have := (Kd.R_cell ByteArray.empty h (j : Int) (by omega) (by omega)).1
    rw [Int.toNat_natCast] at this
    rw [Nat.zero_add, this, show Go.Proofs.YtkilblnlplfknaaGreatDoorW.PrintWords.rdOf ByteArray.empty (L.map bS) (j : Int) = x by
      unfold Go.Proofs.YtkilblnlplfknaaGreatDoorW.PrintWords.rdOf
      rw [Int.toNat_natCast, List.getD_eq_getElem?_getD, hj]
      rfl]) hg (by rw [List.length_map]; omega) hcap (by rw [e, bS_toList]; omega)
  rw [e, bS_toList] at hj
  exact hj

theorem dec64_c (n : Int) (h0 : 0 ≤ n) (h1 : n ≤ 9223372036854775807) (w : World) (ht : Tab w) : Calls Tryz.prog 107 #[.int .i64 n] w (Ret w (.string (bS (dg n)))) := by
  have HF := Aside0.mk (fmt_c n h0 (by omega) w ht)
  clear ht
  go_enter Tryz.func107, Tryz.ntmps107
  go_wp2_with (go_at_call 95; refine HF.out.mono ?_; rintro _ w1 ⟨rfl, hb1⟩)
  go_ret
  exact ⟨rfl, hb1⟩
end Go.Proofs.YtkilblnlplfknaaGreatDoor
end
section
/- Texts of layouts and of numbers, in plain Lean. -/
namespace Go.Proofs.YtkilblnlplfknaaGreatDoor
open Go.RowKit Go.Proofs.YtkilblnlplfknaaGreatDoorW.PrintWords Go.Proofs.YtkilblnlplfknaaGreatDoorW.PrintMore
set_option linter.unusedVariables false
set_option linter.unusedSimpArgs false
set_option maxRecDepth 100000

def lyT (E : List Int) : Bs := joinL 44 (E.map dg)
def plainE (E : List Int) : Bool := inR E.length 1 12 && E.all (fun x => inR x 0 60)
structure PlE (E : List Int) : Prop where
  n : 1 ≤ E.length ∧ E.length ≤ 12
  x : ∀ x, x ∈ E → 0 ≤ x ∧ x ≤ 60
theorem plE {E : List Int} (h : plainE E = true) : PlE E := by
  simp only [plainE, inR, Bool.and_eq_true, decide_eq_true_eq, List.all_eq_true] at h
  exact ⟨by omega, h.2⟩
theorem PlE.plain {E : List Int} (h : PlE E) : plainE E = true := by
  simp only [plainE, inR, Bool.and_eq_true, decide_eq_true_eq, List.all_eq_true]
  exact ⟨by have := h.n; omega, h.x⟩
def RdL (l : Bs) (E : List Int) : Prop := plainE E = true ∧ lyT E = l
theorem no44 {E : List Int} : ∀ w, w ∈ E.map dg → (44 : UInt8) ∉ w := by
  intro w hw
  obtain ⟨x, _, rfl⟩ := List.mem_map.1 hw
  exact not_dig (by decide)
theorem rdl_words {l : Bs} {E : List Int} (h : RdL l E) : splitL 44 l = E.map dg := by
  rw [← h.2]
  exact splitL_join (fun e => by have h1 := (plE h.1).n; have := congrArg List.length e; rw [List.length_map, List.length_nil] at this; omega) no44
theorem RdL.unique {l : Bs} {E F : List Int} (h : RdL l E) (h' : RdL l F) : E = F :=
  map_dg_inj (fun x hx => ((plE h.1).x x hx).1) (fun x hx => ((plE h'.1).x x hx).1) (by rw [← rdl_words h, ← rdl_words h'])
/-- How a layout is read. -/
def LyR (l : Bs) (E : List Int) (n err : Int) : Prop := (n = 0 ∧ RdL l E) ∨ (n = err ∧ E = [] ∧ ∀ F, ¬ RdL l F)
theorem LyR.unique {l : Bs} {E F : List Int} {n m err : Int} (h : LyR l E n err) (h' : LyR l F m err) : E = F ∧ n = m := by
  rcases h with ⟨h1, h2⟩ | ⟨h1, h2, h3⟩ <;> rcases h' with ⟨k1, k2⟩ | ⟨k1, k2, k3⟩
  · exact ⟨h2.unique k2, by rw [h1, k1]⟩
  · exact absurd h2 (k3 _)
  · exact absurd k2 (h3 _)
  · exact ⟨by rw [h2, k2], by rw [h1, k1]⟩
theorem rdl_many {l : Bs} (h : 12 < (splitL 44 l).length) (F : List Int) : ¬ RdL l F := fun hr => by
  rw [rdl_words hr, List.length_map] at h
  have := (plE hr.1).n
  omega
/-- The program's word is no number of a layout. -/
theorem rdl_bad {l w : Bs} (hw : w ∈ splitL 44 l) (h : (rdOk w && inR (rdN w) 0 60) = false) (F : List Int) : ¬ RdL l F := fun hr => by
  rw [rdl_words hr] at hw
  obtain ⟨x, hx, rfl⟩ := List.mem_map.1 hw
  have hx := (plE hr.1).x x hx
  obtain ⟨e1, e2⟩ := rd_dg hx.1 (by omega)
  rw [e1, e2] at h
  simp [inR] at h
  omega
theorem rdl_all {l : Bs} (hn : (splitL 44 l).length ≤ 12) (h : ∀ w, w ∈ splitL 44 l → (rdOk w && inR (rdN w) 0 60) = true) : RdL l ((splitL 44 l).map rdN) := by
  have hw : ∀ w, w ∈ splitL 44 l → dg (rdN w) = w ∧ 0 ≤ rdN w ∧ rdN w ≤ 60 := by
    intro w hw
    have := h w hw
    simp only [Bool.and_eq_true, inR, decide_eq_true_eq] at this
    exact ⟨rd_back this.1 this.2.1, this.2⟩
  have e : ((splitL 44 l).map rdN).map dg = splitL 44 l := by
    rw [List.map_map]
    conv => rhs; rw [← List.map_id (splitL 44 l)]
    exact List.map_congr_left (fun w h => (hw w h).1)
  refine ⟨PlE.plain ⟨⟨?_, by rw [List.length_map]; exact hn⟩, ?_⟩, ?_⟩
  · rw [List.length_map]
    exact List.length_pos_iff.2 (splitL_ne _ _)
  · intro x hx
    obtain ⟨w, h1, rfl⟩ := List.mem_map.1 hx
    exact (hw w h1).2
  · unfold lyT
    rw [e]
    exact joinL_split 44 l
/-- The reference's word is no number. -/
theorem rdl_numNone {l w : Bs} (hw : w ∈ splitL 44 l) (h : numL w = none) (F : List Int) : ¬ RdL l F := fun hr => by
  rw [rdl_words hr] at hw
  obtain ⟨x, hx, rfl⟩ := List.mem_map.1 hw
  have hx := (plE hr.1).x x hx
  rw [numL_dg hx.1 (by omega)] at h
  cases h
/-- The number of a word that the reference has read. -/
def nmL (w : Bs) : Int := ((numL w).getD 0 : Nat)
theorem rdl_num {l : Bs} (h : ∀ w, w ∈ splitL 44 l → ∃ n, numL w = some n) : lyT ((splitL 44 l).map nmL) = l := by
  have e : ((splitL 44 l).map nmL).map dg = splitL 44 l := by
    rw [List.map_map]
    conv => rhs; rw [← List.map_id (splitL 44 l)]
    exact List.map_congr_left (fun w hw => by
      obtain ⟨n, hn⟩ := h w hw
      show dg (nmL w) = w
      unfold nmL
      rw [hn]
      exact numL_back hn)
  unfold lyT
  rw [e]
  exact joinL_split 44 l
theorem rdl_notPlain {l : Bs} (h : ∀ w, w ∈ splitL 44 l → ∃ n, numL w = some n) (hp : plainE ((splitL 44 l).map nmL) = false) (F : List Int) : ¬ RdL l F := fun hr => by
  have e := rdl_words hr
  have : (splitL 44 l).map nmL = F := by
    rw [e, List.map_map]
    conv => rhs; rw [← List.map_id F]
    exact List.map_congr_left (fun x hx => by
      have hx := (plE hr.1).x x hx
      show nmL (dg x) = x
      unfold nmL
      rw [numL_dg hx.1 (by omega)]
      show ((x.toNat : Nat) : Int) = x
      omega)
  rw [this, hr.1] at hp
  cases hp
theorem lyT_len {E : List Int} (h : PlE E) : (lyT E).length ≤ 40 := by
  have h1 : ∀ w, w ∈ E.map dg → w.length ≤ 2 := by
    intro w hw
    obtain ⟨x, hx, rfl⟩ := List.mem_map.1 hw
    have := h.x x hx
    exact dg_len 1 this.1 (by omega)
  have h2 := joinL_len (c := 44) h1
  rw [List.length_map] at h2
  have := h.n
  unfold lyT
  omega
end Go.Proofs.YtkilblnlplfknaaGreatDoor
end
section
/- The texts of layouts: the program's and the reference's. -/
namespace Go.Proofs.YtkilblnlplfknaaGreatDoor
open Go.RowKit Go.Proofs.YtkilblnlplfknaaGreatDoorW.PrintWords Go.Proofs.YtkilblnlplfknaaGreatDoorW.PrintMore
set_option linter.unusedVariables false
set_option linter.unusedSimpArgs false
set_option maxRecDepth 100000

theorem withinT64_c (n lo hi : Int) (w : World) : Calls Tryz.prog 46 #[.int .i64 n, .int .i64 lo, .int .i64 hi] w (RetS w (.bool (inR n lo hi))) := by
  go_enter Tryz.func46, Tryz.ntmps46
  go_wp2
  all_goals (go_ret; refine ⟨ret_bool ?_, rfl⟩; unfold inR; rw [Bool.eq_iff_iff]; simp; omega)

theorem withinL_c (n lo hi : Int) (w : World) : Calls Tryz.prog 87 #[.int .i64 n, .int .i64 lo, .int .i64 hi] w (RetS w (.bool (inR n lo hi))) := by
  go_enter Tryz.func87, Tryz.ntmps87
  go_wp2
  all_goals (go_ret; refine ⟨ret_bool ?_, rfl⟩; unfold inR; rw [Bool.eq_iff_iff]; simp; omega)
theorem lyT_next {E : List Int} {k : Nat} {x : Int} (h0 : 1 ≤ k) (hx : E[k]? = some x) : lyT (E.take (k + 1)) = lyT (E.take k) ++ 44 :: dg x := by
  unfold lyT
  have hl : k < E.length := (List.getElem?_eq_some_iff.1 hx).1
  rw [take_snoc hx, List.map_append]
  exact joinL_snoc 44 _ _ (by
    intro h
    have := congrArg List.length h
    rw [List.length_map, List.length_take, List.length_nil] at this
    omega)
theorem lyT_one {E : List Int} {x : Int} (hx : E[0]? = some x) : lyT (E.take 1) = dg x := by
  unfold lyT
  rw [show E.take 1 = E.take 0 ++ [x] from take_snoc hx]
  rfl
theorem PlE.take {E : List Int} (h : PlE E) {k : Nat} (h0 : 1 ≤ k) : PlE (E.take k) := ⟨by have := h.n; rw [List.length_take]; omega, fun x hx => h.x x (List.mem_of_mem_take hx)⟩
end Go.Proofs.YtkilblnlplfknaaGreatDoor
end
section
/- The shelf's contracts for strconv.ParseInt at this dump, in plain words (laid by the kit's lay-shelf and lay-plain; pruned). No condition. -/
namespace Go.Proofs
open Go.Shelf
def Tryz.laysC174_ren : Go.Shelf.Ren := ⟨fun | 174 => 106 | 247 => 121 | 245 => 122 | 287 => 134 | 279 => 135 | 280 => 136 | 281 => 137 | 282 => 138 | 321 => 144 | 322 => 145 | 316 => 146 | 171 => 148 | 205 => 147 | 243 => 151 | 246 => 110 | 283 => 125 | 284 => 126 | 285 => 127 | 286 => 128 | 129 => 140 | 317 => 139 | 318 => 141 | 319 => 142 | 320 => 143 | 337 => 149 | 338 => 150 | n => n, fun | 9 => 9 | 3 => 3 | 2 => 2 | 75 => 121 | 85 => 134 | 4 => 4 | 167 => 158 | 5 => 5 | 53 => 84 | 175 => 159 | 46 => 112 | 168 => 161 | 37 => 22 | 0 => 0 | 210 => 177 | 21 => 21 | 127 => 137 | 145 => 182 | 143 => 180 | 171 => 150 | 173 => 153 | 212 => 165 | 51 => 155 | 20 => 20 | 213 => 166 | 232 => 183 | 233 => 184 | 80 => 124 | n => n, fun | 15 => 4 | 16 => 5 | 17 => 1 | 18 => 6 | 19 => 7 | n => n⟩
theorem Tryz.laysC174 : Go.Proofs.LaysC.n174 Tryz.prog Tryz.laysC174_ren := {
  mixed := by kernel_rfl
  f129 := Tryz.func140.trans (congrArg some (by kernel_rfl))
  f171 := Tryz.func148.trans (congrArg some (by kernel_rfl))
  f174 := Tryz.func106.trans (congrArg some (by kernel_rfl))
  f205 := Tryz.func147.trans (congrArg some (by kernel_rfl))
  f243 := Tryz.func151.trans (congrArg some (by kernel_rfl))
  f245 := Tryz.func122.trans (congrArg some (by kernel_rfl))
  f246 := Tryz.func110.trans (congrArg some (by kernel_rfl))
  f247 := Tryz.func121.trans (congrArg some (by kernel_rfl))
  f279 := Tryz.func135.trans (congrArg some (by kernel_rfl))
  f280 := Tryz.func136.trans (congrArg some (by kernel_rfl))
  f281 := Tryz.func137.trans (congrArg some (by kernel_rfl))
  f282 := Tryz.func138.trans (congrArg some (by kernel_rfl))
  f283 := Tryz.func125.trans (congrArg some (by kernel_rfl))
  f284 := Tryz.func126.trans (congrArg some (by kernel_rfl))
  f285 := Tryz.func127.trans (congrArg some (by kernel_rfl))
  f286 := Tryz.func128.trans (congrArg some (by kernel_rfl))
  f287 := Tryz.func134.trans (congrArg some (by kernel_rfl))
  f316 := Tryz.func146.trans (congrArg some (by kernel_rfl))
  f317 := Tryz.func139.trans (congrArg some (by kernel_rfl))
  f318 := Tryz.func141.trans (congrArg some (by kernel_rfl))
  f319 := Tryz.func142.trans (congrArg some (by kernel_rfl))
  f320 := Tryz.func143.trans (congrArg some (by kernel_rfl))
  f321 := Tryz.func144.trans (congrArg some (by kernel_rfl))
  f322 := Tryz.func145.trans (congrArg some (by kernel_rfl))
  f337 := Tryz.func149.trans (congrArg some (by kernel_rfl))
  f338 := Tryz.func150.trans (congrArg some (by kernel_rfl))
  t0 := Tryz.underlying0
  a0 := Tryz.isAgg0
  z0 := Tryz.sizeOf0
  v0 := Tryz.zeroValue0
  t2 := Tryz.underlying2
  a2 := Tryz.isAgg2
  z2 := Tryz.sizeOf2
  v2 := Tryz.zeroValue2
  t3 := Tryz.underlying3
  a3 := Tryz.isAgg3
  z3 := Tryz.sizeOf3
  v3 := Tryz.zeroValue3
  t4 := Tryz.underlying4
  a4 := Tryz.isAgg4
  z4 := Tryz.sizeOf4
  v4 := Tryz.zeroValue4
  t5 := Tryz.underlying5
  a5 := Tryz.isAgg5
  z5 := Tryz.sizeOf5
  v5 := Tryz.zeroValue5
  t9 := Tryz.underlying9
  a9 := Tryz.isAgg9
  z9 := Tryz.sizeOf9
  v9 := Tryz.zeroValue9
  t20 := Tryz.underlying20
  a20 := Tryz.isAgg20
  z20 := Tryz.sizeOf20
  v20 := Tryz.zeroValue20
  t21 := Tryz.underlying21
  a21 := Tryz.isAgg21
  z21 := Tryz.sizeOf21
  v21 := Tryz.zeroValue21
  t37 := Tryz.underlying22
  a37 := Tryz.isAgg22
  z37 := Tryz.sizeOf22
  v37 := Tryz.zeroValue22
  t46 := Tryz.underlying112
  a46 := Tryz.isAgg112
  z46 := Tryz.sizeOf112
  v46 := Tryz.zeroValue112
  t51 := Tryz.underlying155
  a51 := Tryz.isAgg155
  z51 := Tryz.sizeOf155
  v51 := Tryz.zeroValue155
  t53 := Tryz.underlying84
  a53 := Tryz.isAgg84
  z53 := Tryz.sizeOf84
  v53 := Tryz.zeroValue84
  t75 := Tryz.underlying121
  a75 := Tryz.isAgg121
  z75 := Tryz.sizeOf121
  v75 := Tryz.zeroValue121
  t85 := Tryz.underlying134
  a85 := Tryz.isAgg134
  z85 := Tryz.sizeOf134
  v85 := Tryz.zeroValue134
  t127 := Tryz.underlying137
  a127 := Tryz.isAgg137
  z127 := Tryz.sizeOf137
  v127 := Tryz.zeroValue137
  t143 := Tryz.underlying180
  a143 := Tryz.isAgg180
  z143 := Tryz.sizeOf180
  v143 := Tryz.zeroValue180
  t145 := Tryz.underlying182
  a145 := Tryz.isAgg182
  z145 := Tryz.sizeOf182
  v145 := Tryz.zeroValue182
  t167 := Tryz.underlying158
  a167 := Tryz.isAgg158
  z167 := Tryz.sizeOf158
  v167 := Tryz.zeroValue158
  t168 := Tryz.underlying161
  a168 := Tryz.isAgg161
  z168 := Tryz.sizeOf161
  v168 := Tryz.zeroValue161
  t171 := Tryz.underlying150
  a171 := Tryz.isAgg150
  z171 := Tryz.sizeOf150
  v171 := Tryz.zeroValue150
  t173 := Tryz.underlying153
  a173 := Tryz.isAgg153
  z173 := Tryz.sizeOf153
  v173 := Tryz.zeroValue153
  t175 := Tryz.underlying159
  a175 := Tryz.isAgg159
  z175 := Tryz.sizeOf159
  v175 := Tryz.zeroValue159
  t210 := Tryz.underlying177
  a210 := Tryz.isAgg177
  z210 := Tryz.sizeOf177
  v210 := Tryz.zeroValue177
  t212 := Tryz.underlying165
  a212 := Tryz.isAgg165
  z212 := Tryz.sizeOf165
  v212 := Tryz.zeroValue165
  t213 := Tryz.underlying166
  a213 := Tryz.isAgg166
  z213 := Tryz.sizeOf166
  t232 := Tryz.underlying183
  a232 := Tryz.isAgg183
  z232 := Tryz.sizeOf183
  v232 := Tryz.zeroValue183
  t233 := Tryz.underlying184
  a233 := Tryz.isAgg184
  z233 := Tryz.sizeOf184
  v233 := Tryz.zeroValue184
  g15 := by kernel_rfl
  g16 := by kernel_rfl
  g17 := by kernel_rfl
  g18 := by kernel_rfl
  g19 := by kernel_rfl
  t80 := Tryz.underlying124
  a80 := Tryz.isAgg124
  z80 := Tryz.sizeOf124
  v80 := Tryz.zeroValue124
  i0 := by kernel_rfl
  i2 := by kernel_rfl
  i3 := by kernel_rfl
  i4 := by kernel_rfl
  i5 := by kernel_rfl
  i9 := by kernel_rfl
  i20 := by kernel_rfl
  i21 := by kernel_rfl
  i37 := by kernel_rfl
  i46 := by kernel_rfl
  i51 := by kernel_rfl
  i53 := by kernel_rfl
  i75 := by kernel_rfl
  i80 := by kernel_rfl
  i85 := by kernel_rfl
  i127 := by kernel_rfl
  i143 := by kernel_rfl
  i145 := by kernel_rfl
  i167 := by kernel_rfl
  i168 := by kernel_rfl
  i171 := by kernel_rfl
  i173 := by kernel_rfl
  i175 := by kernel_rfl
  i210 := by kernel_rfl
  i212 := by kernel_rfl
  i232 := by kernel_rfl
  i233 := by kernel_rfl
  m15 := by kernel_rfl
  m16 := by kernel_rfl
  m17 := by kernel_rfl
  m18 := by kernel_rfl
  m19 := by kernel_rfl
  c0 := by kernel_rfl
  c2 := by kernel_rfl
  c3 := by kernel_rfl
  c4 := by kernel_rfl
  c5 := by kernel_rfl
  c9 := by kernel_rfl
  c20 := by kernel_rfl
  c21 := by kernel_rfl
  c37 := by kernel_rfl
  c46 := by kernel_rfl
  c51 := by kernel_rfl
  c53 := by kernel_rfl
  c75 := by kernel_rfl
  c80 := by kernel_rfl
  c85 := by kernel_rfl
  c127 := by kernel_rfl
  c143 := by kernel_rfl
  c145 := by kernel_rfl
  c167 := by kernel_rfl
  c168 := by kernel_rfl
  c171 := by kernel_rfl
  c173 := by kernel_rfl
  c175 := by kernel_rfl
  c210 := by kernel_rfl
  c212 := by kernel_rfl
  c213 := by kernel_rfl
  c232 := by kernel_rfl
  c233 := by kernel_rfl }
open Go.RowKit in
/-- A contract of the shelf at this dump. -/
theorem Tryz.strconv_ParseInt_10_at64_ok (s : ByteArray) (hmax : s.size ≤ 9223372036854775806) (v : Int) (h : Lib.parseIntB 64 s.data.toList = .ok v) (w : World) :
    Calls Tryz.prog 106 #[.string s, .int .i64 10, .int .i64 64] w fun e w' => e = .returned (.tuple #[.int .i64 v, .nilIface]) ∧ (w' = w ∨ ∃ t, w' = Lib.bytesWorld w 5 t) := Any.strconv_ParseInt_10_at64_ok Tryz.laysC174 s hmax v h w
open Go.RowKit in
/-- A contract of the shelf at this dump. -/
theorem Tryz.strconv_ParseInt_10_at64_syntax (s : ByteArray) (hlim : s.size ≤ 281474976710656) (h : Lib.parseIntB 64 s.data.toList = (Go.Lib.NumEnd.ofOption none)) (ev : Value) (w : World) (hv : w.cell? ⟨4, 0, none⟩ = some ev) (hev : ev = .nilIface ∨ ∃ te pe, ev = .iface te pe) :
    Calls Tryz.prog 106 #[.string s, .int .i64 10, .int .i64 64] w fun e w' => ∃ N, e = .returned (.tuple #[.int .i64 (0), .iface 161 (.pointer (some ⟨N, 0, none⟩))]) ∧ w.heap.size ≤ N ∧ w'.heap[N]? = some (.cells #[.string ⟨#[80, 97, 114, 115, 101, 73, 110, 116]⟩, .string s, ev] 177 (0, 0)) ∧ Below w.heap.size w w' := Any.strconv_ParseInt_10_at64_syntax Tryz.laysC174 s hlim h ev w hv hev
open Go.RowKit in
/-- A contract of the shelf at this dump. -/
theorem Tryz.strconv_ParseInt_10_at64_range (s : ByteArray) (hlim : s.size ≤ 281474976710656) (h : Lib.parseIntB 64 s.data.toList = .range) (ev : Value) (w : World) (hv : w.cell? ⟨5, 0, none⟩ = some ev) (hev : ev = .nilIface ∨ ∃ te pe, ev = .iface te pe) :
    Calls Tryz.prog 106 #[.string s, .int .i64 10, .int .i64 64] w fun e w' => ∃ N, e = .returned (.tuple #[.int .i64 (Lib.intSat 64 s.data.toList), .iface 161 (.pointer (some ⟨N, 0, none⟩))]) ∧ w.heap.size ≤ N ∧ w'.heap[N]? = some (.cells #[.string ⟨#[80, 97, 114, 115, 101, 73, 110, 116]⟩, .string s, ev] 177 (0, 0)) ∧ Below w.heap.size w w' := Any.strconv_ParseInt_10_at64_range Tryz.laysC174 s hlim h ev w hv hev
end Go.Proofs
end
section
/- Numbers read from texts: the program's. -/
namespace Go.Proofs.YtkilblnlplfknaaGreatDoor
open Go.RowKit Go.Proofs.YtkilblnlplfknaaGreatDoorW.PrintWords Go.Proofs.YtkilblnlplfknaaGreatDoorW.PrintMore
set_option linter.unusedVariables false
set_option linter.unusedSimpArgs false
set_option maxRecDepth 100000

/-- What a reading wants of the world: the library's variables. -/
structure Txt (w : World) : Prop where
  tab : Tab w
  mx : ∃ m, w.cell? ⟨0, 0, none⟩ = some (.int .i64 m)
  es : ∃ ev, w.cell? ⟨4, 0, none⟩ = some ev ∧ (ev = .nilIface ∨ ∃ te pe, ev = .iface te pe)
  er : ∃ ev, w.cell? ⟨5, 0, none⟩ = some ev ∧ (ev = .nilIface ∨ ∃ te pe, ev = .iface te pe)
theorem Txt.below {w w1 : World} (h : Txt w) (hb : Below w.heap.size w w1) : Txt w1 := by
  obtain ⟨h1, ⟨m, h2⟩, ⟨ev, h3, h4⟩, ev2, h5, h6⟩ := h
  exact ⟨h1.below hb, ⟨m, pw_cell_below hb h2⟩, ⟨ev, pw_cell_below hb h3, h4⟩, ev2, pw_cell_below hb h5, h6⟩
theorem decZ_c (n : Int) (h0 : -9223372036854775808 ≤ n) (h1 : n ≤ 9223372036854775807) (w : World) (ht : Tab w) : Calls Tryz.prog 107 #[.int .i64 n] w (Ret w (.string (bS (Go.Lib.itoa n)))) := by
  have HF := Aside0.mk (show Calls Tryz.prog 95 #[.int .i64 n, .int .i64 10] w (Ret w (.string (bS (Go.Lib.itoa n)))) from (Tryz.strconv_FormatInt_10 n h0 h1 w ht).mono fun e w' ⟨he, k, os, hw⟩ => ⟨he, by rw [hw]; exact bgrow w k os⟩)
  clear ht
  go_enter Tryz.func107, Tryz.ntmps107
  go_wp2_with (go_at_call 95; refine HF.out.mono ?_; rintro _ w1 ⟨rfl, hb1⟩)
  go_ret
  exact ⟨rfl, hb1⟩
theorem bS_list (l : Bs) : (bS l).toList = l := by rw [Go.Lib.toList_data, bS_toList]
theorem ret_rd {a b : Int} {c d : Bool} (h : a = b) (k : c = d) : Ending.returned (.tuple #[.int .i64 a, .bool c]) = .returned (.tuple #[.int .i64 b, .bool d]) := by rw [h, k]
set_option maxHeartbeats 2000000 in
theorem readDec_c (l : Bs) (hl : l.length ≤ 1048576) (w : World) (ht : Txt w) : Calls Tryz.prog 91 #[.string (bS l)] w (Ret w (.tuple #[.int .i64 (rdN l), .bool (rdOk l)])) := by
  have hsz : (bS l).size ≤ 1048576 := by rw [bS_size]; exact hl
  have HT := Aside0.mk ht
  obtain ⟨_, _, ⟨ev, he1, he2⟩, ev2, hr1, hr2⟩ := ht
  cases h : Go.Lib.parseIntB 64 l
  · rename_i v
    have hv : -9223372036854775808 ≤ v ∧ v ≤ 9223372036854775807 := by
      rw [Go.Lib.parseIntB_64] at h
      exact Go.Lib.atoiAll_bounds h
    have HR := Aside0.mk (show rdN l = v by unfold rdN; rw [h])
    have HK := Aside0.mk (show rdOk l = (Go.Lib.itoa v == l) by unfold rdOk; rw [h])
    have HP := Aside0.mk (show Calls Tryz.prog 106 #[.string (bS l), .int .i64 10, .int .i64 64] w (Ret w (.tuple #[.int .i64 v, .nilIface])) from (Tryz.strconv_ParseInt_10_at64_ok (bS l) (by omega) v (by rw [bS_toList]; exact h) w).mono fun e w' ⟨he, hw⟩ => ⟨he, by
      rcases hw with rfl | ⟨t, rfl⟩
      · exact Below.refl _ _
      · exact Go.Lib.bytesWorld_below _ _ _⟩)
    have HD := Aside0.mk (fun W h => decZ_c v hv.1 hv.2 W h)
    clear h hv he1 he2 hr1 hr2
    have HQ := Aside0.mk (show ((bS (Go.Lib.itoa v)).toList == (bS l).toList) = rdOk l by rw [HK.out, bS_list, bS_list])
    go_enter Tryz.func91, Tryz.ntmps91
    go_wp2_with fail
    refine HP.out.mono ?_; rintro _ w1 ⟨rfl, hb1⟩
    have HB1 := Aside0.mk hb1
    clear hb1
    go_wp2_with fail
    refine (HD.out _ (HT.out.tab.below HB1.out)).mono ?_; rintro _ w2 ⟨rfl, hb2⟩
    have HB2 := Aside0.mk (bstep HB1.out hb2)
    clear hb2
    go_wp2
    go_ret2
    exact ⟨ret_rd HR.out.symm HQ.out, HB2.out⟩
  · have HR := Aside0.mk (show rdN l = 0 by unfold rdN; rw [h])
    have HK := Aside0.mk (show rdOk l = false by unfold rdOk; rw [h])
    have HP := Aside0.mk (Tryz.strconv_ParseInt_10_at64_syntax (bS l) (by omega) (by rw [bS_toList]; exact h) ev w he1 he2)
    clear h he1 he2 hr1 hr2
    go_enter Tryz.func91, Tryz.ntmps91
    go_wp2_with fail
    refine HP.out.mono ?_; rintro _ w1 ⟨N, rfl, _, _, hb1⟩
    have HB1 := Aside0.mk hb1
    clear hb1
    go_wp2
    go_ret2
    exact ⟨ret_rd HR.out.symm HK.out.symm, HB1.out⟩
  · have HR := Aside0.mk (show rdN l = Go.Lib.intSat 64 l by unfold rdN; rw [h])
    have HK := Aside0.mk (show rdOk l = false by unfold rdOk; rw [h])
    have HP := Aside0.mk (Tryz.strconv_ParseInt_10_at64_range (bS l) (by omega) (by rw [bS_toList]; exact h) ev2 w hr1 hr2)
    rw [bS_toList] at HP
    clear h he1 he2 hr1 hr2
    go_enter Tryz.func91, Tryz.ntmps91
    go_wp2_with fail
    refine HP.out.mono ?_; rintro _ w1 ⟨N, rfl, _, _, hb1⟩
    have HB1 := Aside0.mk hb1
    clear hb1
    go_wp2
    go_ret2
    exact ⟨ret_rd HR.out.symm HK.out.symm, HB1.out⟩
theorem i16_low {n : Int} (h : 0 ≤ n ∧ n ≤ 32767) : IntKind.i16.wrap n = n := by
  simp only [IntKind.wrap, IntKind.bits, IntKind.signed, Bool.true_and, decide_eq_true_eq, ge_iff_le]
  split <;> omega
set_option maxHeartbeats 2000000 in
theorem short_c (l : Bs) (hl : l.length ≤ 1048576) (w : World) (ht : Txt w) : Calls Tryz.prog 73 #[.string (bS l)] w (Ret w (.int .i16 (shN l))) := by
  have HD := Aside0.mk (readDec_c l hl w ht)
  have HW := Aside0.mk (fun W => withinT64_c (rdN l) 0 32767 W)
  clear ht
  cases hk : rdOk l
  · have HS := Aside0.mk (show shN l = -1 by unfold shN; rw [hk]; rfl)
    rw [hk] at HD
    clear hk
    generalize rdN l = v at HD HW
    go_enter Tryz.func73, Tryz.ntmps73
    go_wp2_with (go_at_call 91; refine HD.out.mono ?_; rintro _ w1 ⟨rfl, hb1⟩)
    go_ret
    exact ⟨ret_int HS.out.symm, hb1⟩
  · cases hr : inR (rdN l) 0 32767
    · have HS := Aside0.mk (show shN l = -1 by unfold shN; rw [hk, hr]; rfl)
      rw [hk] at HD
      rw [hr] at HW
      clear hk hr
      generalize rdN l = v at HD HW
      go_enter Tryz.func73, Tryz.ntmps73
      go_wp2_with fail
      refine HD.out.mono ?_; rintro _ w1 ⟨rfl, hb1⟩
      have HB1 := Aside0.mk hb1
      clear hb1
      go_wp2_with fail
      refine (HW.out _).mono ?_; rintro _ w2 ⟨rfl, rfl⟩
      go_wp2
      go_ret
      exact ⟨ret_int HS.out.symm, HB1.out⟩
    · have HS := Aside0.mk (show shN l = rdN l by unfold shN; rw [hk, hr]; rfl)
      have hv := inR_iff.1 hr
      have hwv : IntKind.i16.wrap (rdN l) = rdN l := i16_low hv
      rw [hk] at HD
      rw [hr] at HW
      clear hk hr
      generalize rdN l = v at HD HW HS hv hwv
      go_enter Tryz.func73, Tryz.ntmps73
      go_wp2_with fail
      refine HD.out.mono ?_; rintro _ w1 ⟨rfl, hb1⟩
      have HB1 := Aside0.mk hb1
      clear hb1
      go_wp2_with fail
      refine (HW.out _).mono ?_; rintro _ w2 ⟨rfl, rfl⟩
      go_wp2
      go_ret
      exact ⟨ret_int HS.out.symm, HB1.out⟩
end Go.Proofs.YtkilblnlplfknaaGreatDoor
end
section
/- Numbers read from texts, texts parted: the reference's. -/
namespace Go.Proofs.YtkilblnlplfknaaGreatDoor
open Go.RowKit Go.Proofs.YtkilblnlplfknaaGreatDoorW.PrintWords Go.Proofs.YtkilblnlplfknaaGreatDoorW.PrintMore
set_option linter.unusedVariables false
set_option linter.unusedSimpArgs false
set_option maxRecDepth 100000

open Go.Lib (decFrom digitVal)
def nmV (l : Bs) : Int := ((numL l).getD 0 : Nat)
def nmK (l : Bs) : Bool := (numL l).isSome
theorem bS_at {l : Bs} {k : Nat} {x : UInt8} (h : l[k]? = some x) : ∀ hk : k < (bS l).size, (((bS l)[k]'hk).toNat : Int) = (x.toNat : Int) := by
  intro hk
  have hl : k < l.length := (List.getElem?_eq_some_iff.1 h).1
  have e := (List.getElem?_eq_some_iff.1 h).2
  have : (bS l)[k]'hk = l[k]'hl := by
    simp [bS, ByteArray.getElem_eq_getElem_data]
  rw [this, e]
theorem num_none {l : Bs} (h : numL l = none) : nmV l = 0 ∧ nmK l = false := by unfold nmV nmK; rw [h]; exact ⟨rfl, rfl⟩
theorem num_long {l : Bs} (h : 9 < l.length) : numL l = none := by unfold numL; rw [if_pos (.inr (.inl h))]
theorem num_zero {r : Bs} (h : r ≠ []) : numL (48 :: r) = none := by
  unfold numL
  rw [if_pos]
  have := List.length_pos_iff.2 h
  exact .inr (.inr ⟨rfl, by simp only [List.length_cons]; omega⟩)
theorem num_go {l : Bs} (h0 : l ≠ []) (h1 : ¬ 9 < l.length) (h2 : ¬ (l.head? = some 48 ∧ 1 < l.length)) : numL l = decFrom 0 l := by
  unfold numL
  rw [if_neg]
  rintro (h | h | h)
  · exact h0 h
  · exact h1 h
  · exact h2 h
theorem decFrom_bad {l : Bs} {k acc : Nat} {x : UInt8} (h : l[k]? = some x) (hx : x.toNat < 48 ∨ 57 < x.toNat) : decFrom acc l = none := by
  cases hd : decFrom acc l with
  | none => rfl
  | some n =>
    exfalso
    revert acc n k
    induction l with
    | nil => intro k acc h n hd; simp at h
    | cons y r ih =>
      intro k acc h n hd
      rw [decFrom] at hd
      cases hy : digitVal y with
      | none => rw [hy] at hd; cases hd
      | some d =>
        rw [hy] at hd
        cases k with
        | zero =>
          simp only [List.getElem?_cons_zero, Option.some.injEq] at h
          subst h
          have := Go.Lib.digitVal_eq hy
          omega
        | succ k => exact ih (by simpa using h) n hd
theorem decFrom_lt9 {l : Bs} {n : Nat} (h : decFrom 0 l = some n) (hl : l.length ≤ 9) : n < 1000000000 := by
  have h1 := Go.Lib.decFrom_lt l 0 n h
  have h2 : 10 ^ l.length ≤ 10 ^ 9 := Nat.pow_le_pow_right (by decide) hl
  omega
theorem nm_some {l : Bs} {n : Nat} (h : numL l = some n) : nmV l = n ∧ nmK l = true := by unfold nmV nmK; rw [h]; exact ⟨rfl, rfl⟩
end Go.Proofs.YtkilblnlplfknaaGreatDoor
end
section
/- Texts parted at a sign: the library's Split, and the reference's own. -/
namespace Go.Proofs.YtkilblnlplfknaaGreatDoor
open Go.RowKit Go.Proofs.YtkilblnlplfknaaGreatDoorW.PrintWords Go.Proofs.YtkilblnlplfknaaGreatDoorW.PrintMore
set_option linter.unusedVariables false
set_option linter.unusedSimpArgs false
set_option maxRecDepth 100000

theorem ext_bS (l : Bs) (a b : Nat) : (bS l).extract a b = bS ((l.take b).drop a) := by
  rw [← bS_of ((bS l).extract a b), Go.Lib.extract_data, bS_toList, List.drop_take]
theorem splitB_bS (c : UInt8) (l : Bs) : Go.Lib.splitB (bS [c]) 0 (Go.Lib.countB (bS l) (bS [c])) (bS l) = (splitL c l).map bS := by
  have h := splitB_one c (bS l)
  rw [bS_toList] at h
  rw [← h, List.map_map]
  exact (map_back (fun x _ => bS_of x)).symm
theorem countB_bS (c : UInt8) (l : Bs) : Go.Lib.countB (bS l) (bS [c]) + 1 = (splitL c l).length := by
  have h := Go.Lib.splitB_all (bS [c]) (by rw [bS_size]; exact Nat.le_refl _) 0 _ (bS l) rfl
  rw [splitB_bS, List.length_map] at h
  exact h.symm
theorem splitL_len (c : UInt8) : ∀ l : Bs, (splitL c l).length ≤ l.length + 1
  | [] => Nat.le_refl _
  | x :: l => by
    have ih := splitL_len c l
    rw [splitL]
    split
    · simp only [List.length_cons]; omega
    · split
      · simp
      · rename_i w r h
        rw [h] at ih
        simp only [List.length_cons] at ih ⊢
        omega
/-- A row of texts that a literal lays. -/
theorem lit_C (W : World) (xs : List ByteArray) (hn : xs.length ≤ 2097152) : Kd.string.C (W.alloc (.cells (xs.map Value.string).toArray 9)) (some ⟨W.heap.size, 0, none⟩) xs.length xs := by
  have h1 := World.ownsRow_lit (base := 0) (e := 9) (size := 1) W (xs.map Value.string).toArray xs.length (Nat.zero_le _) (by unfold maxLen; omega) (by simp)
  have h2 : Kd.string.R 9 (W.alloc (.cells (xs.map Value.string).toArray 9)) 0 (fun _ => True) (.slice (some ⟨W.heap.size, 0, none⟩) xs.length xs.length) xs :=
    Kd.R_of_own (enc := Value.string) (h1 := fun _ => rfl) (by simpa [Go.Proofs.YtkilblnlplfknaaGreatDoorW.PrintWords.encs] using h1) (fun _ _ => trivial)
  exact (Kd.R_reads' h2).2.2
/-- Pieces handed back. -/
def NewP (w : World) (ws : List Bs) (v : Value) (w' : World) : Prop := ∃ A c, v = .slice A ws.length c ∧ ws.length ≤ c ∧ Kd.string.C w' A ws.length (ws.map bS)
theorem split_c (c : UInt8) (l : Bs) (hl : l.length ≤ 1048576) (w : World) (ht : Txt w) : Calls Tryz.prog 71 #[.string (bS l), .string (bS [c])] w (RetQ w (NewP w (splitL c l))) := by
  obtain ⟨m, hm⟩ := ht.mx
  refine (Tryz.strings_Split (bS l) (bS [c]) m w (by rw [bS_size]; omega) hm (by rw [bS_size]; exact Nat.le_refl _)).mono ?_
  rintro e w' ⟨rfl, rfl⟩
  rw [countB_bS]
  refine ⟨_, rfl, balloc (Below.refl _ _) _, _, _, rfl, Nat.le_refl _, ?_⟩
  have h := lit_C w ((splitL c l).map bS) (by rw [List.length_map]; have := splitL_len c l; omega)
  rw [splitB_bS]
  rw [List.length_map] at h
  exact h
theorem at_str {ws : List Bs} {w : World} {A : Option Addr} {n : Nat} (h : Kd.string.C w A n (ws.map bS)) (i : Nat) (hi : i < n) (hn : n = ws.length) :
    ∃ ad x, A = some ad ∧ Aside0 (ws[i]? = some x) ∧ w.cell? (ad.add i) = some (.string (bS x)) := by
  obtain ⟨ad, e, hx⟩ := Kd.at_string h (i : Int) (by omega) (by omega)
  have hl : i < ws.length := by omega
  refine ⟨ad, ws[i], e, ⟨List.getElem?_eq_getElem hl⟩, ?_⟩
  rw [Int.toNat_natCast] at hx
  rw [hx]
  unfold Go.Proofs.YtkilblnlplfknaaGreatDoorW.PrintWords.rdOf
  rw [Int.toNat_natCast, List.getD_eq_getElem?_getD, List.getElem?_map, List.getElem?_eq_getElem hl]
  rfl
/-- How far the reference has parted a text. -/
structure SpI (c : UInt8) (l : Bs) (k b : Nat) (P : List Bs) (cur : Bs) : Prop where
  e : splitL c l = P ++ splitL c (cur ++ l.drop k)
  no : c ∉ cur
  cur : cur = (l.take k).drop b
  le : b ≤ k
  n : P.length ≤ k
theorem SpI.hit {c : UInt8} {l : Bs} {k b : Nat} {P : List Bs} {cur : Bs} (h : SpI c l k b P cur) (hx : l[k]? = some c) : SpI c l (k + 1) (k + 1) (P ++ [cur]) [] := by
  have hk := (List.getElem?_eq_some_iff.1 hx).1
  have he := (List.getElem?_eq_some_iff.1 hx).2
  refine ⟨?_, List.not_mem_nil, ?_, Nat.le_refl _, by have := h.n; rw [List.length_append, List.length_singleton]; omega⟩
  · rw [h.e, List.drop_eq_getElem_cons hk, he, splitL_cons _ h.no, List.append_assoc]
    rfl
  · rw [List.drop_of_length_le (by rw [List.length_take]; omega)]
theorem SpI.miss {c x : UInt8} {l : Bs} {k b : Nat} {P : List Bs} {cur : Bs} (h : SpI c l k b P cur) (hx : l[k]? = some x) (hc : x ≠ c) : SpI c l (k + 1) b P (cur ++ [x]) := by
  have hk := (List.getElem?_eq_some_iff.1 hx).1
  have he := (List.getElem?_eq_some_iff.1 hx).2
  refine ⟨?_, ?_, ?_, by have := h.le; omega, by have := h.n; omega⟩
  · rw [h.e, List.drop_eq_getElem_cons hk, he, List.append_assoc]
    rfl
  · intro hm
    rcases List.mem_append.1 hm with hm | hm
    · exact h.no hm
    · exact hc (List.mem_singleton.1 hm).symm
  · rw [take_snoc hx, List.drop_append_of_le_length (by rw [List.length_take]; have := h.le; omega), ← h.cur]
theorem SpI.done {c : UInt8} {l : Bs} {b : Nat} {P : List Bs} {cur : Bs} (h : SpI c l l.length b P cur) : splitL c l = P ++ [cur] := by
  rw [h.e, List.drop_length, List.append_nil, splitL_none h.no]
end Go.Proofs.YtkilblnlplfknaaGreatDoor
end
section
/- Books' texts in plain Lean: what a book's text is, and that it is found again. -/
namespace Go.Proofs.YtkilblnlplfknaaGreatDoor
open Go.RowKit Go.Proofs.YtkilblnlplfknaaGreatDoorW.PrintWords Go.Proofs.YtkilblnlplfknaaGreatDoorW.PrintMore
set_option linter.unusedVariables false
set_option linter.unusedSimpArgs false
set_option maxRecDepth 100000

def mkB (b : Bk) : Bs := [UInt8.ofNat b.m0.toNat, UInt8.ofNat b.m1.toNat, UInt8.ofNat b.m2.toNat]
theorem mkB_str (b : Bk) : strOfNums [b.m0, b.m1, b.m2] = bS (mkB b) := rfl
def bkWs (b : Bk) : List Bs := [dg b.c, mkB b, dg b.v, dg b.wd ++ 120 :: dg b.h, dg b.wt]
/-- The text of a book. -/
def bkT (b : Bk) : Bs := joinL 32 (bkWs b)
theorem bkT_join (b : Bk) : Go.Lib.join [dg b.c, mkB b, dg b.v, dg b.wd ++ 120 :: dg b.h, dg b.wt] [32] = bkT b := by
  simp [Go.Lib.join_cons, Go.Lib.joinTail, bkT, bkWs, joinL]
theorem bkT_eq (b : Bk) : bkT b = dg b.c ++ [32] ++ mkB b ++ [32] ++ dg b.v ++ [32] ++ dg b.wd ++ [120] ++ dg b.h ++ [32] ++ dg b.wt := by
  simp [bkT, bkWs, joinL]
structure VB1 (b : Bk) : Prop where
  c : 0 ≤ b.c ∧ b.c ≤ 999
  m0 : 97 ≤ b.m0 ∧ b.m0 ≤ 122
  m1 : 97 ≤ b.m1 ∧ b.m1 ≤ 122
  m2 : 97 ≤ b.m2 ∧ b.m2 ≤ 122
  v : 1 ≤ b.v ∧ b.v ≤ 99
  wd : 1 ≤ b.wd ∧ b.wd ≤ 100
  h : 50 ≤ b.h ∧ b.h ≤ 400
  wt : 1 ≤ b.wt ∧ b.wt ≤ 9999
theorem vB1 {b : Bk} (h : vBook b = true) : VB1 b := by
  simp only [vBook, vMark, inR, Bool.and_eq_true, decide_eq_true_eq] at h
  obtain ⟨h1, ⟨h2, h3, h4⟩, h5, h6, h7, h8⟩ := h
  exact ⟨h1, h2, h3, h4, h5, h6, h7, h8⟩
theorem mkB_small {b : Bk} (h : VB1 b) {x : UInt8} (hx : x ∈ mkB b) : 97 ≤ x.toNat ∧ x.toNat ≤ 122 := by
  obtain ⟨_, h0, h1, h2, _⟩ := h
  unfold mkB at hx
  simp only [List.mem_cons, List.not_mem_nil, or_false] at hx
  rcases hx with rfl | rfl | rfl <;> (rw [UInt8.toNat_ofNat']; omega)
theorem bkWs_no {b : Bk} (h : VB1 b) : ∀ w, w ∈ bkWs b → (32 : UInt8) ∉ w := by
  intro w hw
  unfold bkWs at hw
  simp only [List.mem_cons, List.not_mem_nil, or_false] at hw
  rcases hw with rfl | rfl | rfl | rfl | rfl
  · exact not_dig (by decide)
  · intro hm
    have := mkB_small h hm
    exact absurd this.1 (by decide)
  · exact not_dig (by decide)
  · intro hm
    rcases List.mem_append.1 hm with hm | hm
    · exact not_dig (by decide) hm
    · rcases List.mem_cons.1 hm with hm | hm
      · exact absurd hm (by decide)
      · exact not_dig (by decide) hm
  · exact not_dig (by decide)
theorem bkT_split {b : Bk} (h : VB1 b) : splitL 32 (bkT b) = bkWs b := splitL_join (List.cons_ne_nil _ _) (bkWs_no h)
theorem sizes_split (b : Bk) : splitL 120 (dg b.wd ++ 120 :: dg b.h) = [dg b.wd, dg b.h] := by
  rw [splitL_cons _ (not_dig (by decide)), splitL_none (not_dig (by decide))]
theorem u8_inj {n m : Int} (h0 : 97 ≤ n ∧ n ≤ 122) (h1 : 97 ≤ m ∧ m ≤ 122) (h : UInt8.ofNat n.toNat = UInt8.ofNat m.toNat) : n = m := by
  have := congrArg UInt8.toNat h
  rw [UInt8.toNat_ofNat', UInt8.toNat_ofNat'] at this
  omega
/-- A text is that of a book. -/
def RdB (l : Bs) (b : Bk) : Prop := vBook b = true ∧ bkT b = l
theorem RdB.unique {l : Bs} {b b' : Bk} (h : RdB l b) (h' : RdB l b') : b = b' := by
  have v := vB1 h.1
  have v' := vB1 h'.1
  have e : bkWs b = bkWs b' := by rw [← bkT_split v, ← bkT_split v', h.2, h'.2]
  unfold bkWs mkB at e
  simp only [List.cons.injEq, and_true] at e
  obtain ⟨e1, ⟨e2, e3, e4⟩, e5, e6, e7⟩ := e
  have e8 := congrArg (splitL 120) e6
  rw [sizes_split, sizes_split] at e8
  simp only [List.cons.injEq, and_true] at e8
  cases b; cases b'
  simp only [Bk.mk.injEq]
  obtain ⟨a1, a2, a3, a4, a5, a6, a7, a8⟩ := v
  obtain ⟨c1, c2, c3, c4, c5, c6, c7, c8⟩ := v'
  exact ⟨dg_inj (by simpa using a1.1) (by simpa using c1.1) e1, u8_inj a2 c2 e2, u8_inj a3 c3 e3, u8_inj a4 c4 e4, dg_inj (by simp at a5; omega) (by simp at c5; omega) e5, dg_inj (by simp at a6; omega) (by simp at c6; omega) e8.1, dg_inj (by simp at a7; omega) (by simp at c7; omega) e8.2, dg_inj (by simp at a8; omega) (by simp at c8; omega) e7⟩
theorem bkT_len {b : Bk} (h : VB1 b) : (bkT b).length ≤ 30 := by
  have h1 := dg_len (n := b.c) 2 h.c.1 (by have := h.c.2; omega)
  have h2 := dg_len (n := b.v) 1 (by have := h.v; omega) (by have := h.v; omega)
  have h3 := dg_len (n := b.wd) 2 (by have := h.wd; omega) (by have := h.wd; omega)
  have h4 := dg_len (n := b.h) 2 (by have := h.h; omega) (by have := h.h; omega)
  have h5 := dg_len (n := b.wt) 3 (by have := h.wt; omega) (by have := h.wt; omega)
  rw [bkT_eq]
  simp only [List.length_append, List.length_cons, List.length_nil, mkB]
  omega
end Go.Proofs.YtkilblnlplfknaaGreatDoor
end
section
/- A book's text: the program's and the reference's. -/
namespace Go.Proofs.YtkilblnlplfknaaGreatDoor
open Go.RowKit Go.Proofs.YtkilblnlplfknaaGreatDoorW.PrintWords Go.Proofs.YtkilblnlplfknaaGreatDoorW.PrintMore
set_option linter.unusedVariables false
set_option linter.unusedSimpArgs false
set_option maxRecDepth 100000

theorem mk_conv {W : World} {g : Nat} {b : Bk} (h : BkAt W ⟨g, 0, none⟩ b) (c : Nat) : (convert 22 9 (.slice (some ⟨g, 1, none⟩) 3 c)).run Tryz.prog W = .ok (.string (bS (mkB b))) W :=
  Kd.C_string (xs := [b.m0, b.m1, b.m2]) Tryz.underlying22 Tryz.underlying5 Tryz.underlying9 (marks_C W g 1 b.m0 b.m1 b.m2 h.c1 h.c2 h.c3)
theorem mk_convA {W : World} {a : Addr} {b : Bk} (h : BkAt W a b) (c : Nat) : (convert 22 9 (.slice (some ⟨a.block, a.off + 1, none⟩) 3 c)).run Tryz.prog W = .ok (.string (bS (mkB b))) W :=
  Kd.C_string (xs := [b.m0, b.m1, b.m2]) Tryz.underlying22 Tryz.underlying5 Tryz.underlying9 (marks_C W a.block (a.off + 1) b.m0 b.m1 b.m2 h.c1 h.c2 h.c3)
theorem dgS_le {n : Int} (h0 : 0 ≤ n) (h1 : n ≤ 99999) : (bS (dg n)).size ≤ 5 := by
  rw [bS_size]
  exact dg_len 4 h0 (by omega)
theorem mkS_size (b : Bk) : (bS (mkB b)).size = 3 := by rw [bS_size]; rfl
set_option maxHeartbeats 4000000 in
theorem bookText_c (b : Bk) (hv : VB1 b) (w : World) (ht : Tab w) : Calls Tryz.prog 51 #[b.val] w (Ret w (.string (bS (bkT b)))) := by
  have hbx := BkAt.box w b 30
  have hb0 : Below w.heap.size w (w.alloc (.cells #[.int .i16 b.c, .int .u8 b.m0, .int .u8 b.m1, .int .u8 b.m2, .int .i16 b.v, .int .i16 b.wd, .int .i16 b.h, .int .i16 b.wt] 30)) := balloc (Below.refl _ _) _
  have HT := Aside0.mk (ht.below hb0)
  have HV := Aside0.mk hv
  simp only [Bk.val]
  clear ht hv
  go_enter Tryz.func51, Tryz.ntmps51
  go_wp2_with fail
  generalize World.alloc w _ = W1 at hbx hb0 HT ⊢
  generalize w.heap.size = g at hbx ⊢
  have HB0 := Aside0.mk hb0
  have HBX := Aside0.mk hbx
  clear hb0
  obtain ⟨c0, c1, c2, c3, c4, c5, c6, c7⟩ := hbx
  have o0 : ∀ p : Over W1, p.W.cell? ⟨g, 0, none⟩ = some (.int .i16 b.c) := Over.cell c0
  have o4 : ∀ p : Over W1, p.W.cell? ⟨g, 4, none⟩ = some (.int .i16 b.v) := Over.cell c4
  have o5 : ∀ p : Over W1, p.W.cell? ⟨g, 5, none⟩ = some (.int .i16 b.wd) := Over.cell c5
  have o6 : ∀ p : Over W1, p.W.cell? ⟨g, 6, none⟩ = some (.int .i16 b.h) := Over.cell c6
  have o7 : ∀ p : Over W1, p.W.cell? ⟨g, 7, none⟩ = some (.int .i16 b.wt) := Over.cell c7
  have ocv : ∀ (p : Over W1) (c : Nat), (convert 22 9 (.slice (some ⟨g, 1, none⟩) 3 c)).run Tryz.prog p.W = .ok (.string (bS (mkB b))) p.W := fun p c => mk_conv (HBX.out.below p.h) c
  clear c0 c1 c2 c3 c4 c5 c6 c7
  have HD := Aside0.mk (fun (n : Int) (h : 0 ≤ n ∧ n ≤ 32767) (p : Over W1) => Calls.over_of (dec16_c n h.1 h.2 p.W (HT.out.below p.h)))
  have x1 := dgS_le (n := b.wd) (by have := HV.out.wd; omega) (by have := HV.out.wd; omega)
  have x2 := dgS_le (n := b.h) (by have := HV.out.h; omega) (by have := HV.out.h; omega)
  have y1 : ¬ (9223372036854775807 < (bS (dg b.wd)).size + 1) := by omega
  have y2 : ¬ (9223372036854775807 < (bS (dg b.wd)).size + 1 + (bS (dg b.h)).size) := by omega
  refine region_over_tail 20 (by kernel_rfl) (by kernel_rfl) ?_
  simp only [List.take_succ_cons, List.take_zero, List.drop_succ_cons, List.drop_zero]
  repeat (go_big_quiet_step (first | (go_at_call 75; exact HD.out _ (by first | exact ⟨HV.out.c.1, by have := HV.out.c; omega⟩ | exact ⟨by have := HV.out.v; omega, by have := HV.out.v; omega⟩ | exact ⟨by have := HV.out.wd; omega, by have := HV.out.wd; omega⟩ | exact ⟨by have := HV.out.h; omega, by have := HV.out.h; omega⟩ | exact ⟨by have := HV.out.wt; omega, by have := HV.out.wt; omega⟩) _)))
  refine wpQuiet_nil ?_
  intro wq hw'
  have hq_wq := over_out hw'
  clear hw'
  have hx : bS (dg b.wd) ++ { data := #[120] } ++ bS (dg b.h) = bS (dg b.wd ++ 120 :: dg b.h) := by
    rw [show ({ data := #[120] } : ByteArray) = bS [120] from rfl, bS_append, bS_append, List.append_assoc]
    rfl
  have HJ := Aside0.mk (Tryz.strings_Join wq.heap.size 0 5 [bS (dg b.c), bS (mkB b), bS (dg b.v), bS (dg b.wd ++ 120 :: dg b.h), bS (dg b.wt)] ⟨#[32]⟩ (wq.alloc (.cells #[.string (bS (dg b.c)), .string (bS (mkB b)), .string (bS (dg b.v)), .string (bS (dg b.wd ++ 120 :: dg b.h)), .string (bS (dg b.wt))] 9))
    (fun j x hj => by match j, hj with
      | 0, hj => cases hj; exact (blk_cell (blk_new wq _) 0).trans rfl
      | 1, hj => cases hj; exact (blk_cell (blk_new wq _) 1).trans rfl
      | 2, hj => cases hj; exact (blk_cell (blk_new wq _) 2).trans rfl
      | 3, hj => cases hj; exact (blk_cell (blk_new wq _) 3).trans rfl
      | 4, hj => cases hj; exact (blk_cell (blk_new wq _) 4).trans rfl) (by simp) (by simp) (by simp)
    (by
      simp only [List.map_cons, List.map_nil, bS_toList]
      rw [bkT_join]
      have := bkT_len HV.out
      omega))
  have HB1 := Aside0.mk (bstep HB0.out hq_wq)
  clear o0 o4 o5 o6 o7 ocv x1 x2 y1 y2 hq_wq
  simp only [hx]
  go_wp2_with fail
  refine HJ.out.mono ?_; rintro _ w2 ⟨rfl, hb2⟩
  have HB2 := Aside0.mk (bstep (balloc HB1.out _) hb2)
  clear hb2
  go_wp2
  go_ret
  refine ⟨ret_str ?_, HB2.out⟩
  simp only [List.map_cons, List.map_nil, bS_toList]
  rw [bkT_join]
  rfl
theorem str_assoc (a b c : Bs) : bS a ++ bS b ++ bS c = bS (a ++ b ++ c) := by rw [bS_append, bS_append]
end Go.Proofs.YtkilblnlplfknaaGreatDoor
end
section
/- Books read from their texts, in plain Lean. -/
namespace Go.Proofs.YtkilblnlplfknaaGreatDoor
open Go.RowKit Go.Proofs.YtkilblnlplfknaaGreatDoorW.PrintWords Go.Proofs.YtkilblnlplfknaaGreatDoorW.PrintMore
set_option linter.unusedVariables false
set_option linter.unusedSimpArgs false
set_option maxRecDepth 100000

/-- The book that is made of five words. -/
def bkOf (w0 w2 w3 w4 : Bs) (x y z : UInt8) : Bk := ⟨shN w0, x.toNat, y.toNat, z.toNat, shN w2, shN (Go.Lib.cut w3 [120]).1, shN (Go.Lib.cut w3 [120]).2.1, shN w4⟩
theorem u8_back {n : Int} (h : 97 ≤ n ∧ n ≤ 122) : ((UInt8.ofNat n.toNat).toNat : Int) = n := by rw [UInt8.toNat_ofNat']; omega
theorem bkOf_back {b : Bk} (h : VB1 b) : bkOf (dg b.c) (dg b.v) (dg b.wd ++ 120 :: dg b.h) (dg b.wt) (UInt8.ofNat b.m0.toNat) (UInt8.ofNat b.m1.toNat) (UInt8.ofNat b.m2.toNat) = b := by
  obtain ⟨h1, h2, h3, h4, h5, h6, h7, h8⟩ := h
  unfold bkOf
  rw [cut_one (not_dig (by decide))]
  simp only
  rw [shN_dg h1.1 (by omega), u8_back h2, u8_back h3, u8_back h4, shN_dg (by omega) (by omega), shN_dg (by omega) (by omega), shN_dg (by omega) (by omega), shN_dg (by omega) (by omega)]
/-- How a book is read: the book of the text, or none. -/
def BkR (l : Bs) (b : Bk) (n : Int) (err : Int) : Prop := (n = 0 ∧ RdB l b) ∨ (n = err ∧ b = ⟨0, 0, 0, 0, 0, 0, 0, 0⟩ ∧ ∀ b', ¬ RdB l b')
theorem BkR.unique {l : Bs} {b b' : Bk} {n n' err : Int} (h : BkR l b n err) (h' : BkR l b' n' err) : b = b' ∧ n = n' := by
  rcases h with ⟨h1, h2⟩ | ⟨h1, h2, h3⟩ <;> rcases h' with ⟨k1, k2⟩ | ⟨k1, k2, k3⟩
  · exact ⟨h2.unique k2, by rw [h1, k1]⟩
  · exact absurd h2 (k3 _)
  · exact absurd k2 (h3 _)
  · exact ⟨by rw [h2, k2], by rw [h1, k1]⟩
theorem rd_words {l : Bs} {b : Bk} (h : RdB l b) : splitL 32 l = bkWs b := by rw [← h.2]; exact bkT_split (vB1 h.1)
theorem rd_none {l : Bs} (h : (splitL 32 l).length ≠ 5) (b : Bk) : ¬ RdB l b := fun hr => h (by rw [rd_words hr]; rfl)
theorem rd_none3 {l w0 w1 w2 w3 w4 : Bs} (h : splitL 32 l = [w0, w1, w2, w3, w4]) (h3 : w1.length ≠ 3) (b : Bk) : ¬ RdB l b := fun hr => by
  have := rd_words hr
  rw [h] at this
  unfold bkWs at this
  simp only [List.cons.injEq] at this
  exact h3 (by rw [this.2.1]; rfl)
theorem rd_five {l w0 w2 w3 w4 : Bs} {x y z : UInt8} (h : splitL 32 l = [w0, [x, y, z], w2, w3, w4]) {b : Bk} (hr : RdB l b) : bkOf w0 w2 w3 w4 x y z = b := by
  have := rd_words hr
  rw [h] at this
  unfold bkWs mkB at this
  simp only [List.cons.injEq, and_true] at this
  obtain ⟨rfl, ⟨rfl, rfl, rfl⟩, rfl, rfl, rfl⟩ := this
  exact bkOf_back (vB1 hr.1)
/-- The program's reading. -/
theorem rd_impl {l w0 w2 w3 w4 : Bs} {x y z : UInt8} (h : splitL 32 l = [w0, [x, y, z], w2, w3, w4]) (err : Int) :
    BkR l (if (vBook (bkOf w0 w2 w3 w4 x y z) && (bkT (bkOf w0 w2 w3 w4 x y z) == l)) = true then bkOf w0 w2 w3 w4 x y z else ⟨0, 0, 0, 0, 0, 0, 0, 0⟩) (if (vBook (bkOf w0 w2 w3 w4 x y z) && (bkT (bkOf w0 w2 w3 w4 x y z) == l)) = true then 0 else err) err := by
  split
  · rename_i hc
    rw [Bool.and_eq_true, beq_iff_eq] at hc
    exact .inl ⟨rfl, hc⟩
  · rename_i hc
    refine .inr ⟨rfl, rfl, fun b hb => hc ?_⟩
    rw [rd_five h hb, Bool.and_eq_true, beq_iff_eq]
    exact hb
/-- The reference's reading: what five numbers give. -/
theorem rd_spec {l w0 w2 w3 w4 p q : Bs} {x y z : UInt8} {a0 a1 a2 a3 a4 : Nat} (h : splitL 32 l = [w0, [x, y, z], w2, w3, w4]) (h3 : splitL 120 w3 = [p, q])
    (n0 : numL w0 = some a0) (n1 : numL w2 = some a1) (n2 : numL p = some a2) (n3 : numL q = some a3) (n4 : numL w4 = some a4) :
    bkT ⟨a0, x.toNat, y.toNat, z.toNat, a1, a2, a3, a4⟩ = l := by
  have e := joinL_split 32 l
  rw [h] at e
  have e3 := joinL_split 120 w3
  rw [h3] at e3
  rw [← e]
  unfold bkT bkWs mkB
  simp only [numL_back n0, numL_back n1, numL_back n2, numL_back n3, numL_back n4]
  have hm : [UInt8.ofNat ((x.toNat : Int)).toNat, UInt8.ofNat ((y.toNat : Int)).toNat, UInt8.ofNat ((z.toNat : Int)).toNat] = [x, y, z] := by simp
  rw [hm, ← e3]
  rfl
/-- A book's words are read by the reference too. -/
theorem rd_spec_words {l w0 w2 w3 w4 : Bs} {x y z : UInt8} (h : splitL 32 l = [w0, [x, y, z], w2, w3, w4]) {b : Bk} (hr : RdB l b) :
    splitL 120 w3 = [dg b.wd, dg b.h] ∧ w0 = dg b.c ∧ w2 = dg b.v ∧ w4 = dg b.wt ∧ x = UInt8.ofNat b.m0.toNat ∧ y = UInt8.ofNat b.m1.toNat ∧ z = UInt8.ofNat b.m2.toNat := by
  have := rd_words hr
  rw [h] at this
  unfold bkWs mkB at this
  simp only [List.cons.injEq, and_true] at this
  obtain ⟨rfl, ⟨rfl, rfl, rfl⟩, rfl, rfl, rfl⟩ := this
  exact ⟨sizes_split b, rfl, rfl, rfl, rfl, rfl, rfl⟩
end Go.Proofs.YtkilblnlplfknaaGreatDoor
end
section
/- The laws comparisons: eqByteA3, eqBook, eqBookS. -/
namespace Go.Proofs.YtkilblnlplfknaaGreatDoor
open Go.RowKit Go.Proofs.YtkilblnlplfknaaGreatDoorW.PrintWords Go.Proofs.YtkilblnlplfknaaGreatDoorW.PrintMore
set_option linter.unusedVariables false
set_option linter.unusedSimpArgs false
set_option maxRecDepth 100000

end Go.Proofs.YtkilblnlplfknaaGreatDoor
end
