/- Texts of this proof that belong together: GenY, Fx, PlF, TxP, Tail, Shelf, TxE, TxS, TxL, TxY, ShelfP. No condition. -/
import Derived.Test.YtgibcacciedobaaGreatDoorF4
import Derived.StillTailTactics
import Derived.Still
import Derived.Deep.QuietTactic
import Derived.BigQuiet
import Derived.BigRegion
import Derived.RegionTactic
import Derived.ChangeAlike
import Derived.Deep.RegionHeld3
import Derived.Laws.BitsLemmas
import Derived.Deep.RegionWith
import Derived.Deep.RegionLaw
import Derived.Lib.ItoaNum
import Derived.Lib.Join
import Derived.Lib.Split
import Derived.Lib.AtoiTie
import Derived.Lib.ParseIntBTie
import Derived.StillTail
import Derived.Deep.Quiet
import Derived.Shelf.Strings.Builder1
import Derived.Shelf.Strings.Builder2
import Derived.Shelf.Strings.OnBuilder
import Derived.Shelf.Small.Strs
import Derived.Shelf.Strings.BuilderF
import Derived.Shelf.Strings.BuilderK
import Derived.Shelf.Strconv.Itoa0
import Derived.Shelf.Strconv.Itoa1
import Derived.Shelf.LaysM
import Derived.Shelf.Strconv.Itoa2
import Derived.Shelf.Strconv.Itoa3
import Derived.Shelf.Strconv.Itoa4
import Derived.Shelf.Strconv.Clone
import Derived.Shelf.Strconv.Lower
import Derived.Shelf.Strings.Search1
import Derived.Shelf.Strings.Search2
import Derived.Shelf.Strings.Search3
import Derived.Shelf.Strings.Cut
import Derived.Shelf.Strings.Count
import Derived.Shelf.Strings.Shaped
import Derived.Shelf.Strings.Prefix
import Derived.Shelf.Strings.Split
import Derived.Shelf.Strings.SplitShaped
import Derived.Shelf.Unicode.DecodeSlow
import Derived.Test.YtgibcacciedobaaGreatDoorProg
import Derived.Lib.LaidTab
import Derived.Lib.SmallJoins
import Derived.Shelf.Strconv.ParseIntEmpty
import Derived.Shelf.Strconv.SyntaxError
import Derived.Shelf.LaysC
import Derived.Shelf.Strconv.ToError
import Derived.Shelf.Strconv.ParseUint10
import Derived.Shelf.Strconv.ParseUint10Empty
import Derived.Shelf.Strconv.ParseUint10Any
import Derived.Shelf.Strconv.ParseInt10
import Derived.Shelf.Strconv.RangeError
import Derived.Shelf.Strconv.ToErrorRange
import Derived.Shelf.Strconv.ParseUintEmpty
import Derived.Shelf.Strconv.ParseUint10b64
import Derived.Shelf.Strconv.ParseUint10b32
import Derived.Shelf.Strconv.ParseUint10b16
import Derived.Shelf.Strconv.ParseUint10b8
import Derived.Shelf.Strconv.ParseUint10At
import Derived.Shelf.Strconv.ParseInt10At64
import Derived.Shelf.Strconv.ParseInt10At32
import Derived.Shelf.Strconv.ParseInt10At16
import Derived.Shelf.Strconv.ParseInt10At8
import Derived.Shelf.Strconv.ParseInt10All
import Derived.Shelf.Strconv.ParseIntPublic10
import Derived.Shelf.Strconv.ErrVarParseInt
section
/- Comparing two books in plain Lean; Comparing two books by an order: the reference's, without the program's; Orders of books are weak orders; Sorting books: the reference's, without the program's; Rows of books that are written: exchange of two; The reference's source of numbers: numbers within bounds; The reference's source of numbers: books, lists, cases; The reference's source of numbers: lists of books; The laws' words that draw: A2Books, A2Case; The laws' words that draw: A2Case. -/
namespace Go.Proofs.YtgibcacciedobaaGreatDoor
open Go.RowKit Go.Proofs.YtgibcacciedobaaGreatDoorW.PrintWords Go.Proofs.YtgibcacciedobaaGreatDoorW.PrintMore
set_option linter.unusedVariables false
set_option linter.unusedSimpArgs false
set_option maxRecDepth 100000

/-- A row of books is L behind the call; no other block has changed. -/
def RowIs (B : Nat) (ok : Nat → Prop) (w : World) (g n cap : Nat) (L : List Bk) (w' : World) : Prop := kBk.R 30 w' B ok (.slice (some ⟨g, 0, none⟩) n cap) L ∧ w.grownBy w' (some g)
def Writes (B : Nat) (ok : Nat → Prop) (w : World) (g n cap : Nat) (L : List Bk) (en : Ending) (w' : World) : Prop := en = .returned (.tuple #[]) ∧ RowIs B ok w g n cap L w'
theorem row_put8 {W : World} {B : Nat} {ok : Nat → Prop} {g n cap : Nat} {xs : List Bk} {k : Nat} (b : Bk) (h : kBk.R 30 W B ok (.slice (some ⟨g, 0, none⟩) n cap) xs) (hk : k < n) :
    kBk.R 30 (W.setCells g (k * 8) (Bk.cells b)) B ok (.slice (some ⟨g, 0, none⟩) n cap) (xs.set k b) ∧ W.grownBy (W.setCells g (k * 8) (Bk.cells b)) (some g) := by
  obtain ⟨c, hcl, _, hcc, _⟩ := Kd.R_elem h zBk (k : Int) (by omega) (by omega)
  have hcl8 : c.length = 8 := hcl
  have := Kd.R_seg (okp := fun _ => False) h (k : Int) (by omega) (by omega) hcl (seg := Bk.cells b) (j := 0) (by simpa using hcc) (by show 0 + 8 ≤ 8; omega) (x' := b) (by
    show _ = Bk.cells b
    rw [List.drop_of_length_le (by show c.length ≤ 0 + 8; omega)]
    simp) (fun _ h => h.elim)
  rw [Int.toNat_natCast] at this
  exact this
/-- The cells of an element of a row of one's own. -/
theorem row_at {W : World} {B : Nat} {ok : Nat → Prop} {g n cap : Nat} {xs : List Bk} {k : Nat} (h : kBk.R 30 W B ok (.slice (some ⟨g, 0, none⟩) n cap) xs) (hk : k < n) :
    ∃ b, Aside0 (xs[k]? = some b) ∧ W.cell? ⟨g, k * 8, none⟩ = some (.int .i16 b.c) ∧ W.cell? ⟨g, k * 8 + 1, none⟩ = some (.int .u8 b.m0) ∧ W.cell? ⟨g, k * 8 + 2, none⟩ = some (.int .u8 b.m1) ∧ W.cell? ⟨g, k * 8 + 3, none⟩ = some (.int .u8 b.m2) ∧ W.cell? ⟨g, k * 8 + 4, none⟩ = some (.int .i16 b.v) ∧ W.cell? ⟨g, k * 8 + 5, none⟩ = some (.int .i16 b.wd) ∧ W.cell? ⟨g, k * 8 + 6, none⟩ = some (.int .i16 b.h) ∧ W.cell? ⟨g, k * 8 + 7, none⟩ = some (.int .i16 b.wt) ∧
      W.frozen? ⟨g, k * 8, none⟩ = false ∧ W.frozen? ⟨g, k * 8 + 1, none⟩ = false ∧ W.frozen? ⟨g, k * 8 + 2, none⟩ = false ∧ W.frozen? ⟨g, k * 8 + 3, none⟩ = false ∧ W.frozen? ⟨g, k * 8 + 4, none⟩ = false ∧ W.frozen? ⟨g, k * 8 + 5, none⟩ = false ∧ W.frozen? ⟨g, k * 8 + 6, none⟩ = false ∧ W.frozen? ⟨g, k * 8 + 7, none⟩ = false := by
  have hn := (Kd.R_reads' h).1
  obtain ⟨b, hx⟩ : ∃ b, xs[k]? = some b := ⟨_, List.getElem?_eq_getElem (by omega)⟩
  obtain ⟨c, hcl, hM, hcc, hf⟩ := Kd.R_elem h zBk (k : Int) (by omega) (by omega)
  rw [Int.toNat_natCast] at hM hcc hf
  have hg : xs.getD k zBk = b := by simp [List.getD_eq_getElem?_getD, hx]
  rw [hg] at hM
  have hM' : c = Bk.cells b := hM
  subst hM'
  exact ⟨b, ⟨hx⟩, hcc 0 _ rfl, hcc 1 _ rfl, hcc 2 _ rfl, hcc 3 _ rfl, hcc 4 _ rfl, hcc 5 _ rfl, hcc 6 _ rfl, hcc 7 _ rfl, hf 0, hf 1, hf 2, hf 3, hf 4, hf 5, hf 6, hf 7⟩
theorem gr_drew {w w' : World} {row : Option Nat} (h : w.grownBy w' row) : w.grownBy w'.drew row := ⟨h.os, h.tape, h.output, h.size, h.block⟩
/-- Two elements of a row change places. -/
theorem exch {W W' : World} {B : Nat} {ok : Nat → Prop} {w : World} {g n cap : Nat} {C : List Bk} {i j : Nat} {x y : Bk} (h : RowIs B ok w g n cap C W) (hi : i < n) (hj : j < n) (hx : C[i]? = some x) (hy : C[j]? = some y) (e : ((W.setCells g (i * 8) (Bk.cells y)).setCells g (j * 8) (Bk.cells x)).drew = W') :
    RowIs B ok w g n cap (Srt.swp C i j) W' := by
  rw [Srt.swp_at hx hy, ← e]
  clear e
  have h1 := h.1
  have h2 := h.2
  obtain ⟨h3, h4⟩ := row_put8 y h1 hi
  obtain ⟨h5, h6⟩ := row_put8 x h3 hj
  have h7 := (h2.trans h4).trans h6
  exact And.intro (Kd.R_drew h5) (gr_drew h7)
theorem gr_below {w W W' : World} {g : Nat} (h : w.grownBy W (some g)) (hb : Below W.heap.size W W') : w.grownBy W' (some g) := h.trans ⟨hb.os, hb.tape, hb.output, hb.size, fun k hk _ => hb.block k hk⟩
theorem RowIs.below {B : Nat} {ok : Nat → Prop} {w W W' : World} {g n cap : Nat} {C : List Bk} (h : RowIs B ok w g n cap C W) (hb : Below W.heap.size W W') : RowIs B ok w g n cap C W' := ⟨Kd.R_below h.1 hb, gr_below h.2 hb⟩
theorem RowIs.drew {B : Nat} {ok : Nat → Prop} {w W : World} {g n cap : Nat} {C : List Bk} (h : RowIs B ok w g n cap C W) : RowIs B ok w g n cap C W.drew := ⟨Kd.R_drew h.1, gr_drew h.2⟩
theorem RowIs.drewN {B : Nat} {ok : Nat → Prop} {w W : World} {g n cap : Nat} {C : List Bk} (h : RowIs B ok w g n cap C W) (k : Nat) : RowIs B ok w g n cap C (W.drewN k) := ⟨Kd.R_drewN h.1 k, ⟨h.2.os, h.2.tape, h.2.output, h.2.size, h.2.block⟩⟩
theorem row_of {W : World} {B : Nat} {ok : Nat → Prop} {g n cap : Nat} {xs : List Bk} {k : Nat} {b : Bk} (h : kBk.R 30 W B ok (.slice (some ⟨g, 0, none⟩) n cap) xs) (hk : k < n) (hb : xs[k]? = some b) :
    W.cell? ⟨g, k * 8, none⟩ = some (.int .i16 b.c) ∧ W.cell? ⟨g, k * 8 + 1, none⟩ = some (.int .u8 b.m0) ∧ W.cell? ⟨g, k * 8 + 2, none⟩ = some (.int .u8 b.m1) ∧ W.cell? ⟨g, k * 8 + 3, none⟩ = some (.int .u8 b.m2) ∧ W.cell? ⟨g, k * 8 + 4, none⟩ = some (.int .i16 b.v) ∧ W.cell? ⟨g, k * 8 + 5, none⟩ = some (.int .i16 b.wd) ∧ W.cell? ⟨g, k * 8 + 6, none⟩ = some (.int .i16 b.h) ∧ W.cell? ⟨g, k * 8 + 7, none⟩ = some (.int .i16 b.wt) ∧
      W.frozen? ⟨g, k * 8, none⟩ = false ∧ W.frozen? ⟨g, k * 8 + 1, none⟩ = false ∧ W.frozen? ⟨g, k * 8 + 2, none⟩ = false ∧ W.frozen? ⟨g, k * 8 + 3, none⟩ = false ∧ W.frozen? ⟨g, k * 8 + 4, none⟩ = false ∧ W.frozen? ⟨g, k * 8 + 5, none⟩ = false ∧ W.frozen? ⟨g, k * 8 + 6, none⟩ = false ∧ W.frozen? ⟨g, k * 8 + 7, none⟩ = false := by
  obtain ⟨b', hb', r⟩ := row_at h hk
  obtain rfl : b' = b := by have := hb'.out; rw [hb] at this; exact (Option.some.inj this).symm
  exact r
/-- cmp.Compare of whole numbers. -/
def cmpI (x y : Int) : Int := if x < y then -1 else if y < x then 1 else 0
theorem cmpI_lt {x y : Int} (h : x < y) : cmpI x y = -1 := by unfold cmpI; rw [if_pos h]
theorem cmpI_gt {x y : Int} (h : y < x) : cmpI x y = 1 := by unfold cmpI; rw [if_neg (by omega), if_pos h]
theorem cmpI_eq {x y : Int} (h : x = y) : cmpI x y = 0 := by unfold cmpI; rw [if_neg (by omega), if_neg (by omega)]
theorem cmpI_zero {x y : Int} : cmpI x y = 0 ↔ x = y := by unfold cmpI; split <;> (try split) <;> omega
theorem cmpI_three (x y : Int) : cmpI x y = -1 ∨ cmpI x y = 0 ∨ cmpI x y = 1 := by unfold cmpI; split <;> (try split) <;> simp
/-- Three pairs of numbers, the first that differs. -/
def cmp3 (x0 x1 x2 y0 y1 y2 : Int) : Int := if x0 = y0 then (if x1 = y1 then cmpI x2 y2 else cmpI x1 y1) else cmpI x0 y0
/-- What field f of a book is: three numbers. -/
def num0 (f : Int) (b : Bk) : Int := if f = 1 then b.c else if f = 2 then b.m0 else if f = 3 then b.v else if f = 4 then b.wd else if f = 5 then b.h else b.wt
def num1 (f : Int) (b : Bk) : Int := if f = 2 then b.m1 else 0
def num2 (f : Int) (b : Bk) : Int := if f = 2 then b.m2 else 0
def fldCmp (f : Int) (a b : Bk) : Int := cmp3 (num0 f a) (num1 f a) (num2 f a) (num0 f b) (num1 f b) (num2 f b)
theorem fldCmp_one {f : Int} (h : f ≠ 2) (a b : Bk) : fldCmp f a b = cmpI (num0 f a) (num0 f b) := by
  unfold fldCmp cmp3
  rw [show num1 f a = 0 by unfold num1; rw [if_neg h], show num1 f b = 0 by unfold num1; rw [if_neg h], show num2 f a = 0 by unfold num2; rw [if_neg h], show num2 f b = 0 by unfold num2; rw [if_neg h], if_pos rfl]
  by_cases e : num0 f a = num0 f b
  · rw [if_pos e, cmpI_eq e]; rfl
  · rw [if_neg e]
/-- A number without its sign, at eight bits. -/
def absF (f : Int) : Int := if f < 0 then (if f = -128 then -128 else -f) else f
def I8 (x : Int) : Prop := -128 ≤ x ∧ x ≤ 127
theorem wrap8neg {n : Int} (h : I8 n) : IntKind.i8.wrap (-n) = if n = -128 then -128 else -n := by
  obtain ⟨h1, h2⟩ := h
  by_cases e : n = -128
  · subst e; decide
  · rw [if_neg e]; simp only [IntKind.wrap, IntKind.bits, IntKind.signed, Bool.true_and, decide_eq_true_eq, ge_iff_le]; split <;> omega
theorem l01Field_c (n : Int) (h : I8 n) (w : World) : Calls Tryz.prog 154 #[.int .i8 n] w (RetS w (.int .i8 (absF n))) := by
  have HW := Aside0.mk (wrap8neg h)
  obtain ⟨h1, h2⟩ := h
  go_enter Tryz.func154, Tryz.ntmps154
  go_wp2
  all_goals (go_ret; refine ⟨ret_int ?_, rfl⟩; unfold absF; have hw := HW.out; (repeat' split at *) <;> omega)
theorem at_three {W : World} {A : Option Addr} {x y z : Int} (h : (Kd.int .u8).C W A 3 [x, y, z]) : ∃ ad, A = some ad ∧ W.cell? ad = some (.int .u8 x) ∧ W.cell? ⟨ad.block, ad.off + 1, none⟩ = some (.int .u8 y) ∧ W.cell? ⟨ad.block, ad.off + 2, none⟩ = some (.int .u8 z) := by
  obtain ⟨ad, e0, e, h0, c0⟩ := at_int' h 0 (by omega)
  obtain ⟨ad1, e1, f1, h1, c1⟩ := at_int' h 1 (by omega)
  obtain ⟨ad2, e2, f2, h2, c2⟩ := at_int' h 2 (by omega)
  subst e
  injection f1 with f1; subst f1
  injection f2 with f2; subst f2
  have a0 := h0.out; have a1 := h1.out; have a2 := h2.out
  simp only [List.getElem?_cons_zero, List.getElem?_cons_succ, Option.some.injEq] at a0 a1 a2
  subst a0 a1 a2
  exact ⟨ad, rfl, c0, c1, c2⟩
theorem BkAt.mark_C {W : World} {g o : Nat} {b : Bk} (h : BkAt W ⟨g, o, none⟩ b) : (Kd.int .u8).C W (some ⟨g, o + 1, none⟩) 3 [b.m0, b.m1, b.m2] :=
  marks_C W g (o + 1) b.m0 b.m1 b.m2 h.c1 h.c2 h.c3
theorem cmp3_three (x0 x1 x2 y0 y1 y2 : Int) : cmp3 x0 x1 x2 y0 y1 y2 = -1 ∨ cmp3 x0 x1 x2 y0 y1 y2 = 0 ∨ cmp3 x0 x1 x2 y0 y1 y2 = 1 := by
  unfold cmp3
  split
  · split
    · exact cmpI_three _ _
    · exact cmpI_three _ _
  · exact cmpI_three _ _
def sgnCmp (f : Int) (a b : Bk) : Int := if f < 0 then -fldCmp (absF f) a b else fldCmp (absF f) a b
def cmpBy : List Int → Bk → Bk → Int
  | [], _, _ => 0
  | f :: r, a, b => if sgnCmp f a b = 0 then cmpBy r a b else sgnCmp f a b
theorem cmpBy_eq {L : List Int} {k : Nat} {x : Int} {a b : Bk} (h : L[k]? = some x) (hz : sgnCmp x a b = 0) : cmpBy (L.drop (k + 1)) a b = cmpBy (L.drop k) a b := by
  obtain ⟨hl, he⟩ := List.getElem?_eq_some_iff.1 h
  rw [List.drop_eq_getElem_cons hl, he, cmpBy, if_pos hz]
theorem cmpBy_ne {L : List Int} {k : Nat} {x : Int} {a b : Bk} (h : L[k]? = some x) (hz : sgnCmp x a b ≠ 0) : cmpBy (L.drop k) a b = sgnCmp x a b := by
  obtain ⟨hl, he⟩ := List.getElem?_eq_some_iff.1 h
  rw [List.drop_eq_getElem_cons hl, he, cmpBy, if_neg hz]
theorem three_C (W : World) (g o : Nat) (x y z : Int) (h0 : W.cell? ⟨g, o, none⟩ = some (.int .i8 x)) (h1 : W.cell? ⟨g, o + 1, none⟩ = some (.int .i8 y)) (h2 : W.cell? ⟨g, o + 2, none⟩ = some (.int .i8 z)) :
    (Kd.int .i8).C W (some ⟨g, o, none⟩) [x, y, z].length [x, y, z] := by
  refine ⟨rfl, by simp, fun _ => ⟨_, rfl, fun j p hj => ?_⟩⟩
  match j, hj with
  | 0, hj => cases hj; exact ⟨_, rfl, rfl, fun i u hu => by match i, hu with | 0, hu => cases hu; simpa [Addr.add] using h0⟩
  | 1, hj => cases hj; exact ⟨_, rfl, rfl, fun i u hu => by match i, hu with | 0, hu => cases hu; simpa [Addr.add, Kd.int, Kd.scalar] using h1⟩
  | 2, hj => cases hj; exact ⟨_, rfl, rfl, fun i u hu => by match i, hu with | 0, hu => cases hu; simpa [Addr.add, Kd.int, Kd.scalar] using h2⟩
def usualL : List Int := [1, 2, 3]
theorem usualL_ok : ∀ x ∈ usualL, I8 x := by
  intro x hx
  simp only [usualL, List.mem_cons, List.not_mem_nil, or_false] at hx
  unfold I8
  omega
def cmpU (a b : Bk) : Int := cmpBy usualL a b
def IsUsual (v : Value) (W : World) : Prop := ∃ n, v = .slice (some ⟨n, 0, none⟩) 3 3 ∧ (Kd.int .i8).C W (some ⟨n, 0, none⟩) usualL.length usualL
theorem box_two (w : World) (a b : Bk) : ∀ W, Below ((w.alloc (.cells #[.int .i16 a.c, .int .u8 a.m0, .int .u8 a.m1, .int .u8 a.m2, .int .i16 a.v, .int .i16 a.wd, .int .i16 a.h, .int .i16 a.wt] 30)).alloc (.cells #[.int .i16 b.c, .int .u8 b.m0, .int .u8 b.m1, .int .u8 b.m2, .int .i16 b.v, .int .i16 b.wd, .int .i16 b.h, .int .i16 b.wt] 30)).heap.size ((w.alloc (.cells #[.int .i16 a.c, .int .u8 a.m0, .int .u8 a.m1, .int .u8 a.m2, .int .i16 a.v, .int .i16 a.wd, .int .i16 a.h, .int .i16 a.wt] 30)).alloc (.cells #[.int .i16 b.c, .int .u8 b.m0, .int .u8 b.m1, .int .u8 b.m2, .int .i16 b.v, .int .i16 b.wd, .int .i16 b.h, .int .i16 b.wt] 30)) W → Below w.heap.size w W ∧ BkAt W ⟨w.heap.size, 0, none⟩ a ∧ BkAt W ⟨w.heap.size + 1, 0, none⟩ b := by
  intro W h
  have hb := BkAt.box (w.alloc (.cells #[.int .i16 a.c, .int .u8 a.m0, .int .u8 a.m1, .int .u8 a.m2, .int .i16 a.v, .int .i16 a.wd, .int .i16 a.h, .int .i16 a.wt] 30)) b 30
  simp only [World.size_alloc] at hb
  exact ⟨bstep (balloc (balloc (Below.refl _ _) _) _) h, ((BkAt.box w a 30).below (balloc (Below.refl _ _) _)).below h, hb.below h⟩
def nums (f : Int) (b : Bk) : Value := .agg #[.int .i64 (num0 f b), .int .i64 (num1 f b), .int .i64 (num2 f b)]
theorem nums_one {f : Int} (h : f ≠ 2) (b : Bk) : nums f b = .agg #[.int .i64 (num0 f b), .int .i64 0, .int .i64 0] := by
  unfold nums num1 num2
  rw [if_neg h, if_neg h]
set_option maxHeartbeats 4000000 in
theorem l01Numbers_c (f : Int) (b : Bk) (hok : b.ok) (a : Addr) (w : World) (ha : BkAt w a b) : Calls Tryz.prog 176 #[.pointer (some a), .int .i8 f] w (Ret w (nums f b)) := by
  obtain ⟨⟨i0, i0'⟩, ⟨i1, i1'⟩, ⟨i2, i2'⟩, ⟨i3, i3'⟩, ⟨i4, i4'⟩, ⟨i5, i5'⟩, ⟨i6, i6'⟩, i7, i7'⟩ := hok
  have hlt := ha.lt
  obtain ⟨x0, x1, x2, x3, x4, x5, x6, x7⟩ := ha
  by_cases e2 : f = 2
  · subst e2
    go_enter Tryz.func176, Tryz.ntmps176
    go_wp2_with fail
    refine wp_region_still_tail 19 (by kernel_rfl) (by kernel_rfl) ?_
    change wpStill _ _ (World.drew (w.alloc (.cells #[.int .i64 0, .int .i64 0, .int .i64 0] 45))) _ _ _
    simp only [List.take_succ_cons, List.take_zero, List.drop_succ_cons, List.drop_zero]
    repeat still_step
    refine wpStill_nil ?_
    change wpList _ _ _ _ _ (World.drew (w.alloc (.cells #[.int .i64 0, .int .i64 0, .int .i64 0] 45)))
    go_wp2_with fail
    refine bodyPost_ret (v := .agg #[.int .i64 b.m0, .int .i64 b.m1, .int .i64 b.m2]) (by simp [results, Tryz.results176, go_sem]) rfl ⟨rfl, ?_⟩
    first | exact balloc (Below.refl _ _) _ | exact bdrew (balloc (Below.refl _ _) _)
  · rw [nums_one e2]
    by_cases e1 : f = 1
    · subst e1
      go_enter Tryz.func176, Tryz.ntmps176
      go_wp2
      refine bodyPost_ret (v := .agg #[.int .i64 b.c, .int .i64 0, .int .i64 0]) (by simp [results, Tryz.results176, go_sem]) rfl ⟨rfl, ?_⟩
      first | exact balloc (Below.refl _ _) _ | exact bdrew (balloc (Below.refl _ _) _)
    · skip
      by_cases e3 : f = 3
      · subst e3
        go_enter Tryz.func176, Tryz.ntmps176
        go_wp2
        refine bodyPost_ret (v := .agg #[.int .i64 b.v, .int .i64 0, .int .i64 0]) (by simp [results, Tryz.results176, go_sem]) rfl ⟨rfl, ?_⟩
        first | exact balloc (Below.refl _ _) _ | exact bdrew (balloc (Below.refl _ _) _)
      · skip
        by_cases e4 : f = 4
        · subst e4
          go_enter Tryz.func176, Tryz.ntmps176
          go_wp2
          refine bodyPost_ret (v := .agg #[.int .i64 b.wd, .int .i64 0, .int .i64 0]) (by simp [results, Tryz.results176, go_sem]) rfl ⟨rfl, ?_⟩
          first | exact balloc (Below.refl _ _) _ | exact bdrew (balloc (Below.refl _ _) _)
        · skip
          by_cases e5 : f = 5
          · subst e5
            go_enter Tryz.func176, Tryz.ntmps176
            go_wp2
            refine bodyPost_ret (v := .agg #[.int .i64 b.h, .int .i64 0, .int .i64 0]) (by simp [results, Tryz.results176, go_sem]) rfl ⟨rfl, ?_⟩
            first | exact balloc (Below.refl _ _) _ | exact bdrew (balloc (Below.refl _ _) _)
          · skip
            have HE := Aside0.mk (show num0 f b = b.wt by unfold num0; rw [if_neg e1, if_neg e2, if_neg e3, if_neg e4, if_neg e5])
            have n2 : (f == 2) = false := by simpa using e2
            have n1 : (f == 1) = false := by simpa using e1
            have n3 : (f == 3) = false := by simpa using e3
            have n4 : (f == 4) = false := by simpa using e4
            have n5 : (f == 5) = false := by simpa using e5
            clear e1 e2 e3 e4 e5
            go_enter Tryz.func176, Tryz.ntmps176
            go_wp2
            refine bodyPost_ret (v := .agg #[.int .i64 b.wt, .int .i64 0, .int .i64 0]) (by simp [results, Tryz.results176, go_sem]) rfl ⟨by rw [HE.out], ?_⟩
            first | exact balloc (Below.refl _ _) _ | exact bdrew (balloc (Below.refl _ _) _)
structure ArrAt (w : World) (n : Nat) (x y z : Int) : Prop where
  c0 : w.cell? ⟨n, 0, none⟩ = some (.int .i64 x)
  c1 : w.cell? ⟨n, 1, none⟩ = some (.int .i64 y)
  c2 : w.cell? ⟨n, 2, none⟩ = some (.int .i64 z)
theorem ArrAt.lt {w : World} {n : Nat} {x y z : Int} (h : ArrAt w n x y z) : n < w.heap.size := World.block_lt_of_cell? w ⟨n, 0, none⟩ h.c0
theorem ArrAt.below {w w1 : World} {n : Nat} {x y z : Int} (h : ArrAt w n x y z) (hb : Below w.heap.size w w1) : ArrAt w1 n x y z :=
  ⟨(hb.cell (p := ⟨n, 0, none⟩) h.lt).trans h.c0, (hb.cell (p := ⟨n, 1, none⟩) h.lt).trans h.c1, (hb.cell (p := ⟨n, 2, none⟩) h.lt).trans h.c2⟩
theorem ArrAt.box (w : World) (x y z : Int) (t : TypeId) : ArrAt (w.alloc (.cells #[.int .i64 x, .int .i64 y, .int .i64 z] t)) w.heap.size x y z :=
  ⟨(blk_cell (blk_new w _) 0).trans rfl, (blk_cell (blk_new w _) 1).trans rfl, (blk_cell (blk_new w _) 2).trans rfl⟩
def OrdOk (L : List Int) : Prop := ∀ x ∈ L, I8 x ∧ x ≠ 0
theorem sgn_eq {x : Int} {a b : Bk} (h0 : num0 (absF x) a = num0 (absF x) b) (h1 : num1 (absF x) a = num1 (absF x) b) (h2 : num2 (absF x) a = num2 (absF x) b) : sgnCmp x a b = 0 := by
  have : fldCmp (absF x) a b = 0 := by unfold fldCmp cmp3; rw [if_pos h0, if_pos h1, cmpI_eq h2]
  unfold sgnCmp
  rw [this]
  split <;> rfl
def sg (x u v : Int) : Int := if decide (u < v) = decide (0 < x) then -1 else 1
theorem sg_ne (x u v : Int) : sg x u v ≠ 0 := by unfold sg; split <;> decide
theorem sg_of {x u v : Int} (hx : x ≠ 0) (h : u ≠ v) : (if x < 0 then -cmpI u v else cmpI u v) = sg x u v := by
  unfold sg
  by_cases h1 : u < v
  · rw [cmpI_lt h1]
    by_cases h2 : 0 < x
    · rw [if_neg (by omega)]; simp [h1, h2]
    · rw [if_pos (by omega)]; simp [h1, h2]
  · rw [cmpI_gt (by omega)]
    by_cases h2 : 0 < x
    · rw [if_neg (by omega)]; simp [h1, h2]
    · rw [if_pos (by omega)]; simp [h1, h2]
theorem sgn_0 {x : Int} {a b : Bk} (hx : x ≠ 0) (h0 : num0 (absF x) a ≠ num0 (absF x) b) : sgnCmp x a b = sg x (num0 (absF x) a) (num0 (absF x) b) := by
  have : fldCmp (absF x) a b = cmpI (num0 (absF x) a) (num0 (absF x) b) := by unfold fldCmp cmp3; rw [if_neg h0]
  unfold sgnCmp
  rw [this]
  exact sg_of hx h0
theorem sgn_1 {x : Int} {a b : Bk} (hx : x ≠ 0) (h0 : num0 (absF x) a = num0 (absF x) b) (h1 : num1 (absF x) a ≠ num1 (absF x) b) : sgnCmp x a b = sg x (num1 (absF x) a) (num1 (absF x) b) := by
  have : fldCmp (absF x) a b = cmpI (num1 (absF x) a) (num1 (absF x) b) := by unfold fldCmp cmp3; rw [if_pos h0, if_neg h1]
  unfold sgnCmp
  rw [this]
  exact sg_of hx h1
theorem sgn_2 {x : Int} {a b : Bk} (hx : x ≠ 0) (h0 : num0 (absF x) a = num0 (absF x) b) (h1 : num1 (absF x) a = num1 (absF x) b) (h2 : num2 (absF x) a ≠ num2 (absF x) b) : sgnCmp x a b = sg x (num2 (absF x) a) (num2 (absF x) b) := by
  have : fldCmp (absF x) a b = cmpI (num2 (absF x) a) (num2 (absF x) b) := by unfold fldCmp cmp3; rw [if_pos h0, if_pos h1]
  unfold sgnCmp
  rw [this]
  exact sg_of hx h2
theorem sg_t {x u v : Int} (h : (decide (u < v) == decide (0 < x)) = true) : sg x u v = -1 := by unfold sg; rw [if_pos (by simpa using h)]
theorem sg_f {x u v : Int} (h : (decide (u < v) == decide (0 < x)) = false) : sg x u v = 1 := by unfold sg; rw [if_neg (by simpa using h)]
set_option maxHeartbeats 8000000 in
theorem l01Compare_c (A : Option Addr) (c : Nat) (L : List Int) (pa pb : Addr) (a b : Bk) (hoa : a.ok) (hob : b.ok) (w : World) (hL : (Kd.int .i8).C w A L.length L) (hk : OrdOk L) (ha : BkAt w pa a) (hb : BkAt w pb b) :
    Calls Tryz.prog 140 #[.slice A L.length c, .pointer (some pa), .pointer (some pb)] w (Ret w (.int .i64 (cmpBy L a b))) := by
  have hm := Kd.C_max hL
  have HL := Aside0.mk hL
  have HKK := Aside0.mk hk
  have HA := Aside0.mk ha
  have HB := Aside0.mk hb
  have HNA := Aside0.mk (fun f W h => l01Numbers_c f a hoa pa W h)
  have HNB := Aside0.mk (fun f W h => l01Numbers_c f b hob pb W h)
  simp only [nums] at HNA HNB
  clear hL hk ha hb hoa hob
  go_enter Tryz.func140, Tryz.ntmps140
  go_wp2
  go_loopg [7] L.length (fun gk v wr => ∃ k : Nat, k + gk = L.length ∧ v = .int .i64 k ∧ Aside0 (cmpBy (L.drop k) a b = cmpBy L a b) ∧ Aside0 (Below w.heap.size w wr))
  case atStart => exact ⟨0, by omega, rfl, ⟨by simp⟩, ⟨Below.refl _ _⟩⟩
  case round =>
    obtain ⟨k, hk, rfl, hp, hb⟩ := hrel
    have HK := Aside0.mk hk
    by_cases hlt : k < L.length
    · obtain ⟨ad, x, rfl, hx, hc⟩ := at_int' (Kd.C_below HL.out hb.out) k (by omega)
      have HF := Aside0.mk (l01Field_c x (HKK.out x (mem_of hx.out)).1)
      have HX0 := Aside0.mk (HKK.out x (mem_of hx.out)).2
      clear hk
      have i0 : (0 : Int) ≤ (k : Int) := by omega
      have i1 : (k : Int) < (L.length : Int) := by omega
      go_wp2_with fail
      refine (HF.out _).mono ?_; rintro _ w1 ⟨rfl, rfl⟩
      go_wp2_with fail
      refine (HNA.out _ _ (HA.out.below hb.out)).mono ?_; rintro _ w1 ⟨rfl, hb1⟩
      have HB1 := Aside0.mk (bstep hb.out hb1)
      clear hb1 hc
      go_wp2_with fail
      have HC1 := Aside0.mk (ArrAt.box w1 (num0 (absF x) a) (num1 (absF x) a) (num2 (absF x) a) 45)
      have HB2 := Aside0.mk (balloc HB1.out (.cells #[.int .i64 (num0 (absF x) a), .int .i64 (num1 (absF x) a), .int .i64 (num2 (absF x) a)] 45))
      generalize World.alloc w1 _ = w2 at HC1 HB2 ⊢
      refine (HNB.out _ _ (HB.out.below HB2.out)).mono ?_; rintro _ w3 ⟨rfl, hb3⟩
      have HB3 := Aside0.mk (bstep HB2.out hb3)
      have HC3 := Aside0.mk (HC1.out.below hb3)
      clear hb3
      go_wp2_with fail
      have HC4 := Aside0.mk (HC3.out.below (balloc (Below.refl _ _) (.cells #[.int .i64 (num0 (absF x) b), .int .i64 (num1 (absF x) b), .int .i64 (num2 (absF x) b)] 45)))
      have HD4 := Aside0.mk (ArrAt.box w3 (num0 (absF x) b) (num1 (absF x) b) (num2 (absF x) b) 45)
      have HB4 := Aside0.mk (balloc HB3.out (.cells #[.int .i64 (num0 (absF x) b), .int .i64 (num1 (absF x) b), .int .i64 (num2 (absF x) b)] 45))
      generalize World.alloc w3 _ = w4 at HC4 HD4 HB4 ⊢
      obtain ⟨ad', x', e', hx', hc4⟩ := at_int' (Kd.C_below HL.out HB4.out) k (by omega)
      injection e' with e'
      subst e'
      have hxx := hx'.out
      rw [hx.out] at hxx
      injection hxx with hxx
      subst hxx
      clear hx'
      obtain ⟨c0, c1, c2⟩ := HC4.out
      obtain ⟨d0, d1, d2⟩ := HD4.out
      clear HC1 HC3 HC4 HD4 HB1 HB2 HB3
      generalize w1.heap.size = n9 at c0 c1 c2 ⊢
      generalize w3.heap.size = n10 at d0 d1 d2 ⊢
      clear w1 w2 w3
      have h0 := @sgn_0 x a b HX0.out
      have h1 := @sgn_1 x a b HX0.out
      have h2 := @sgn_2 x a b HX0.out
      have h3 := @sgn_eq x a b
      generalize num0 (absF x) a = x0 at c0 h0 h1 h2 h3 ⊢
      generalize num1 (absF x) a = x1 at c1 h1 h2 h3 ⊢
      generalize num2 (absF x) a = x2 at c2 h2 h3 ⊢
      generalize num0 (absF x) b = y0 at d0 h0 h1 h2 h3 ⊢
      generalize num1 (absF x) b = y1 at d1 h1 h2 h3 ⊢
      generalize num2 (absF x) b = y2 at d2 h2 h3 ⊢
      by_cases e0 : x0 = y0
      · by_cases e1 : x1 = y1
        · by_cases e2 : x2 = y2
          · have HR := Aside0.mk (show cmpBy (L.drop (k + 1)) a b = cmpBy L a b by rw [← hp.out, cmpBy_eq hx.out (h3 e0 e1 e2)])
            have q0 : (x0 == y0) = true := by simpa using e0
            have q1 : (x1 == y1) = true := by simpa using e1
            have q2 : (x2 == y2) = true := by simpa using e2
            clear h0 h1 h2 h3 e0 e1 e2
            refine wp_loop_rounds 4 ?_
            iterate 3 (rw [rounds_succ]; go_wp2_with fail; go_quiet (fail); go_wp2)
            rw [rounds_succ]
            go_wp2_with fail
            go_roundg (gk - 1)
            case measure => have := HK.out; omega
            case rel => exact ⟨k + 1, by have := HK.out; omega, by go_num, HR, ⟨by repeat (first | exact HB4.out | refine bdrewN ?_ _)⟩⟩
          · have HR := Aside0.mk (show cmpBy L a b = sg x x2 y2 by rw [← hp.out, cmpBy_ne hx.out (by rw [h2 e0 e1 e2]; exact sg_ne _ _ _), h2 e0 e1 e2])
            have q0 : (x0 == y0) = true := by simpa using e0
            have q1 : (x1 == y1) = true := by simpa using e1
            have q2 : (x2 == y2) = false := by simpa using e2
            clear h0 h1 h2 h3 e0 e1 e2
            refine wp_loop_rounds 3 ?_
            iterate 2 (rw [rounds_succ]; go_wp2_with fail; go_quiet (fail); go_wp2)
            rw [rounds_succ]
            go_wp2_with fail
            go_quiet (fail)
            go_wp2
            go_quiet (fail)
            go_wp2
            all_goals first
              | (go_ret; exact ⟨ret_int (by rw [HR.out]; exact (sg_t ‹_›).symm), by repeat (first | exact HB4.out | refine bdrewN ?_ _)⟩)
              | (go_ret; exact ⟨ret_int (by rw [HR.out]; exact (sg_f ‹_›).symm), by repeat (first | exact HB4.out | refine bdrewN ?_ _)⟩)
        · have HR := Aside0.mk (show cmpBy L a b = sg x x1 y1 by rw [← hp.out, cmpBy_ne hx.out (by rw [h1 e0 e1]; exact sg_ne _ _ _), h1 e0 e1])
          have q0 : (x0 == y0) = true := by simpa using e0
          have q1 : (x1 == y1) = false := by simpa using e1
          clear h0 h1 h2 h3 e0 e1
          refine wp_loop_rounds 2 ?_
          iterate 1 (rw [rounds_succ]; go_wp2_with fail; go_quiet (fail); go_wp2)
          rw [rounds_succ]
          go_wp2_with fail
          go_quiet (fail)
          go_wp2
          go_quiet (fail)
          go_wp2
          all_goals first
            | (go_ret; exact ⟨ret_int (by rw [HR.out]; exact (sg_t ‹_›).symm), by repeat (first | exact HB4.out | refine bdrewN ?_ _)⟩)
            | (go_ret; exact ⟨ret_int (by rw [HR.out]; exact (sg_f ‹_›).symm), by repeat (first | exact HB4.out | refine bdrewN ?_ _)⟩)
      · have HR := Aside0.mk (show cmpBy L a b = sg x x0 y0 by rw [← hp.out, cmpBy_ne hx.out (by rw [h0 e0]; exact sg_ne _ _ _), h0 e0])
        have q0 : (x0 == y0) = false := by simpa using e0
        clear h0 h1 h2 h3 e0
        refine wp_loop_rounds 1 ?_
        rw [rounds_succ]
        go_wp2_with fail
        go_quiet (fail)
        go_wp2
        go_quiet (fail)
        go_wp2
        all_goals first
          | (go_ret; exact ⟨ret_int (by rw [HR.out]; exact (sg_t ‹_›).symm), by repeat (first | exact HB4.out | refine bdrewN ?_ _)⟩)
          | (go_ret; exact ⟨ret_int (by rw [HR.out]; exact (sg_f ‹_›).symm), by repeat (first | exact HB4.out | refine bdrewN ?_ _)⟩)
    · have HR := Aside0.mk (show cmpBy L a b = 0 by rw [← hp.out, List.drop_eq_nil_of_le (by omega)]; rfl)
      clear hk
      go_wp2
      go_ret
      exact ⟨ret_int HR.out.symm, hb.out⟩
/-- A comparison with three outcomes, that orders. -/
structure Pre3 (c : Bk → Bk → Int) : Prop where
  anti : ∀ x y, c y x = -c x y
  le : ∀ x y z, c x y ≤ 0 → c y z ≤ 0 → c x z ≤ 0
theorem Pre3.num (g : Bk → Int) : Pre3 (fun a b => cmpI (g a) (g b)) := by
  refine ⟨fun x y => ?_, fun x y z h1 h2 => ?_⟩
  · simp only [cmpI]; (repeat' split) <;> omega
  · simp only [cmpI] at *; (repeat' split at *) <;> omega
theorem Pre3.neg {c : Bk → Bk → Int} (h : Pre3 c) : Pre3 (fun a b => -c a b) := by
  refine ⟨fun x y => ?_, fun x y z h1 h2 => ?_⟩
  · have := h.anti x y; omega
  · have a1 := h.anti x y
    have a2 := h.anti y z
    have a3 := h.anti x z
    have := h.le z y x (by omega) (by omega)
    omega
theorem Pre3.lex {c d : Bk → Bk → Int} (h : Pre3 c) (k : Pre3 d) : Pre3 (fun a b => if c a b = 0 then d a b else c a b) := by
  refine ⟨fun x y => ?_, fun x y z h1 h2 => ?_⟩
  · have a1 := h.anti x y
    have a2 := k.anti x y
    show (if c y x = 0 then d y x else c y x) = -(if c x y = 0 then d x y else c x y)
    by_cases e : c x y = 0
    · rw [if_pos e, if_pos (by omega)]; exact a2
    · rw [if_neg e, if_neg (by omega)]; exact a1
  · have a1 := h.anti x y
    have a2 := h.anti y z
    have a3 := h.anti x z
    have l1 := h.le x y z
    have l2 := h.le y z x
    have l3 := h.le z x y
    have l4 := k.le x y z
    change (if c x y = 0 then d x y else c x y) ≤ 0 at h1
    change (if c y z = 0 then d y z else c y z) ≤ 0 at h2
    show (if c x z = 0 then d x z else c x z) ≤ 0
    by_cases e1 : c x y = 0 <;> by_cases e2 : c y z = 0 <;> by_cases e3 : c x z = 0 <;> simp only [e1, e2, e3, if_true, if_false] at h1 h2 ⊢ <;> first | exact l4 h1 h2 | omega
theorem Pre3.congr {c d : Bk → Bk → Int} (h : Pre3 c) (e : ∀ x y, d x y = c x y) : Pre3 d := by
  refine ⟨fun x y => ?_, fun x y z h1 h2 => ?_⟩
  · rw [e, e]; exact h.anti x y
  · rw [e] at h1 h2 ⊢; exact h.le x y z h1 h2
theorem fld_pre (f : Int) : Pre3 (fldCmp f) := by
  refine Pre3.congr (Pre3.lex (Pre3.num (num0 f)) (Pre3.lex (Pre3.num (num1 f)) (Pre3.num (num2 f)))) (fun x y => ?_)
  unfold fldCmp cmp3
  simp only [cmpI_zero]
theorem sgn_pre (f : Int) : Pre3 (sgnCmp f) := by
  unfold sgnCmp
  by_cases h : f < 0
  · refine Pre3.congr (Pre3.neg (fld_pre (absF f))) (fun x y => ?_)
    rw [if_pos h]
  · refine Pre3.congr (fld_pre (absF f)) (fun x y => ?_)
    rw [if_neg h]
theorem cmpBy_pre : ∀ (L : List Int), Pre3 (cmpBy L)
  | [] => ⟨fun _ _ => rfl, fun _ _ _ _ _ => by simp [cmpBy]⟩
  | f :: r => Pre3.congr (Pre3.lex (sgn_pre f) (cmpBy_pre r)) (fun x y => rfl)
def ltBy (L : List Int) (a b : Bk) : Bool := decide (cmpBy L a b < 0)
theorem ltBy_wk (L : List Int) : Srt.Wk (ltBy L) := by
  have h := cmpBy_pre L
  refine ⟨fun x y h1 => ?_, fun x y z h1 h2 => ?_⟩
  · unfold ltBy at *
    have := h.anti x y
    simp only [decide_eq_true_eq, decide_eq_false_iff_not] at *
    omega
  · unfold ltBy at *
    have a1 := h.anti x y
    have a2 := h.anti y z
    have a3 := h.anti x z
    simp only [decide_eq_true_eq, decide_eq_false_iff_not] at *
    have := h.le z y x (by omega) (by omega)
    omega
def ltU (a b : Bk) : Bool := decide (cmpU a b < 0)
theorem ltU_wk : Srt.Wk ltU := ltBy_wk usualL
theorem drop_cons {α : Type} {L : List α} {j : Nat} {x : α} (h : L[j]? = some x) : L.drop j = x :: L.drop (j + 1) := by
  obtain ⟨hl, he⟩ := List.getElem?_eq_some_iff.1 h
  rw [List.drop_eq_getElem_cons hl, he]
theorem put_get {O : List Bk} {z : Bk} {k : Nat} (h0 : 0 < k) (hk : k ≤ O.length) : (O.take k ++ z :: O.drop k)[k - 1]? = O[k - 1]? := by
  rw [List.getElem?_append_left (by rw [List.length_take]; omega), List.getElem?_take, if_pos (by omega)]
theorem put_set {O : List Bk} {z x : Bk} {k : Nat} (hk : k ≤ O.length) : (O.take k ++ z :: O.drop k).set k x = O.take k ++ x :: O.drop k := by
  have hl : (O.take k).length = k := by rw [List.length_take]; omega
  rw [List.set_append_right _ _ (by omega), hl, Nat.sub_self, List.set_cons_zero]
theorem put_step {O : List Bk} {z y : Bk} {k : Nat} (h0 : 0 < k) (hy : O[k - 1]? = some y) : (O.take k ++ z :: O.drop k).set k y = O.take (k - 1) ++ y :: O.drop (k - 1) := by
  have hl := (List.getElem?_eq_some_iff.1 hy).1
  rw [put_set (by omega)]
  have h1 : O.take k = O.take (k - 1) ++ [y] := by
    have := take_snoc hy
    rwa [show k - 1 + 1 = k by omega] at this
  have h2 : O.drop (k - 1) = y :: O.drop k := by
    have := drop_cons hy
    rwa [show k - 1 + 1 = k by omega] at this
  rw [h1, h2]
  simp
/-- A place that is reached: the list is sorted. -/
theorem put_end {lt : Bk → Bk → Bool} (hw : Srt.Wk lt) {L : List Bk} {i : Nat} {x : Bk} {k : Nat} (hx : L[i]? = some x) (hk : k ≤ (Srt.sortL lt (L.take i)).length) (h1 : ∀ y, y ∈ (Srt.sortL lt (L.take i)).drop k → lt x y = true)
    (h2 : k = 0 ∨ ∃ y, (Srt.sortL lt (L.take i))[k - 1]? = some y ∧ lt x y = false) :
    (Srt.sortL lt (L.take i)).take k ++ x :: (Srt.sortL lt (L.take i)).drop k = Srt.sortL lt (L.take (i + 1)) := by
  have ho := Srt.sortL_ok hw (L.take i)
  have hp := Srt.put_ok hw (x := x) (k := k) ho.1 h1 (by
    intro y hy
    rcases h2 with h2 | ⟨q, hq, hq2⟩
    · rw [h2] at hy; simp at hy
    · obtain ⟨j, hj, rfl⟩ := List.getElem_of_mem hy
      rw [List.length_take] at hj
      rw [List.getElem_take]
      by_cases e : j = k - 1
      · subst e
        obtain ⟨hl, he⟩ := List.getElem?_eq_some_iff.1 hq
        rw [he]; exact hq2
      · obtain ⟨hl, he⟩ := List.getElem?_eq_some_iff.1 hq
        have hu := List.pairwise_iff_getElem.1 ho.1 j (k - 1) (by omega) hl (by omega)
        rw [he] at hu
        exact hw.ntr _ _ _ hq2 hu)
  rw [take_snoc hx]
  exact Srt.sortL_of hw hp.1 ((Srt.Stab.app ho.2 (Srt.Stab.refl lt [x])).trans hp.2)
structure PutIn (lt : Bk → Bk → Bool) (x : Bk) (O C : List Bk) (k : Nat) : Prop where
  le : k ≤ O.length
  is : ∃ z, C = O.take k ++ z :: O.drop k
  up : ∀ y, y ∈ O.drop k → lt x y = true
theorem sortL_len {lt : Bk → Bk → Bool} (hw : Srt.Wk lt) (L : List Bk) : (Srt.sortL lt L).length = L.length := (Srt.Stab.length hw (Srt.sortL_ok hw L).2).symm
theorem sortL_mem {lt : Bk → Bk → Bool} (hw : Srt.Wk lt) (L : List Bk) (x : Bk) : x ∈ Srt.sortL lt L ↔ x ∈ L := (Srt.Stab.mem hw (Srt.sortL_ok hw L).2 x).symm
set_option maxHeartbeats 8000000 in
theorem l01Sorted_c (A0 A1 : Option Addr) (c0 c1 : Nat) (R : List Int) (L : List Bk) (w : World) (hO : (Kd.int .i8).C w A0 R.length R) (hk : OrdOk R) (hL : kBk.C w A1 L.length L) (hok : OkL L) (hn : L.length ≤ 60) :
    Calls Tryz.prog 67 #[.slice A0 R.length c0, .slice A1 L.length c1] w (RetQ w (NewBk w (Srt.sortL (ltBy R) L))) := by
  have HL := Aside0.mk hL
  have HR0 := Aside0.mk hO
  have HOK := Aside0.mk hok
  have HKK := Aside0.mk hk
  have hw := Aside0.mk (ltBy_wk R)
  clear hL hO hok hk
  go_enter Tryz.func67, Tryz.ntmps67
  go_wp2
  go_loopg [5, 6] L.length (fun gk v5 v6 wr => ∃ (i : Nat), i + gk = L.length ∧ v6 = .int .i64 i ∧ Aside0 (kBk.R 30 wr w.heap.size (fun _ => True) v5 (Srt.sortL (ltBy R) (L.take i))) ∧ Aside0 (Below w.heap.size w wr))
  case atStart => exact ⟨0, by omega, rfl, ⟨R_zero _ _ _ _ _ (Nat.le_refl _) trivial⟩, ⟨balloc (Below.refl _ _) _⟩⟩
  case round =>
    obtain ⟨i, hg, rfl, HR, HB⟩ := hrel
    have HG := Aside0.mk hg
    by_cases hlt : i < L.length
    · obtain ⟨OO, hOO⟩ : ∃ OO, OO = Srt.sortL (ltBy R) (L.take i) := ⟨_, rfl⟩
      rw [← hOO] at HR
      have HOO := Aside0.mk hOO
      have hOl : OO.length = i := by rw [hOO, sortL_len hw.out, List.length_take]; omega
      clear hOO
      obtain ⟨ad, x, rfl, hx, hxb⟩ := at_bk' (Kd.C_below HL.out HB.out) i hlt
      have HX := Aside0.mk hxb
      obtain ⟨x0, x1, x2, x3, x4, x5, x6, x7⟩ := hxb
      obtain ⟨A5, c5, rfl⟩ := Kd.R_slice HR.out
      rw [hOl] at HR ⊢
      have i0 : (0 : Int) ≤ (i : Int) := by omega
      have i1 : (i : Int) < (L.length : Int) := by omega
      clear hg
      go_wp2_with (at_builtin; refine bk_append (w := w) rfl (.tmp 17) (.tmp 22) rfl _ OO x rfl rfl HR.out HB.out (by omega) ?_; intro v1 w1 hR1 hB1 hg1; have HR1 := Aside0.mk hR1; have HB1 := Aside0.mk hB1; clear hR1 hB1 hg1)
      obtain ⟨g, cap, rfl, hgB, hgl, _⟩ := Kd.R_form HR1.out (by simp)
      have hC1 : (OO ++ [x]).length = i + 1 := by simp [hOl]
      rw [hC1] at HR1 ⊢
      have HR2 := Aside0.mk (show RowIs w.heap.size (fun _ => True) w1 g (i + 1) cap (OO ++ [x]) w1 from ⟨HR1.out, World.grownBy.refl _ _⟩)
      clear HR HR1 x0 x1 x2 x3 x4 x5 x6 x7
      obtain ⟨wo, rfl⟩ : ∃ wo : World, wo = wr := ⟨_, rfl⟩
      obtain ⟨gO, rfl⟩ : ∃ g : Nat, g = gk := ⟨_, rfl⟩
      go_loopg [7] i (fun gk v7 wr => ∃ (k : Nat) (C : List Bk), k = gk ∧ v7 = .int .i64 k ∧ Aside0 (PutIn (ltBy R) x OO C k) ∧ Aside0 (RowIs w.heap.size (fun _ => True) w1 g (i + 1) cap C wr) ∧ Aside0 (Below w.heap.size w wr))
      case atStart => exact ⟨i, _, rfl, rfl, ⟨⟨by omega, ⟨x, by rw [List.take_of_length_le (by omega), List.drop_of_length_le (by omega)]⟩, fun y hy => by rw [List.drop_of_length_le (by omega)] at hy; cases hy⟩⟩, HR2, HB1⟩
      case round =>
        clear HR2 HB1
        obtain ⟨k, C, rfl, rfl, HP, HR, HB⟩ := hrel
        have hki : k ≤ i := by have := HP.out.le; omega
        have hxb := HX.out.below (show Below wo.heap.size wo wo from Below.refl _ _)
        obtain ⟨ad', x', e1, hx', hxb'⟩ := at_bk' (Kd.C_below HL.out HB.out) i hlt
        injection e1 with e1
        subst e1
        obtain rfl : x' = x := by have := hx'.out; rw [hx.out] at this; exact (Option.some.inj this).symm
        clear hxb
        have HXB := Aside0.mk hxb'
        by_cases hk0 : k = 0
        · have e0 : decide (0 < k) = false := by simp; omega
          have HN := Aside0.mk (put_end (k := k) hw.out hx.out (by rw [← HOO.out]; omega) (by rw [← HOO.out]; exact HP.out.up) (.inl hk0))
          obtain ⟨x0, x1, x2, x3, x4, x5, x6, x7⟩ := hxb'
          have HK := Aside0.mk hk0
          have k0 : (0 : Int) ≤ (k : Int) := by omega
          have k1 : (k : Int) < (i : Int) + 1 := by omega
          clear hk0
          go_wp2_with fail
          go_quiet (fail)
          go_wp2_with (refine bk_store (w := w) w.heap.size rfl rfl (.tmp 54) (.tmp 53) rfl k _ x' (fun _ => True) rfl (by omega) rfl (Kd.R_drewN HR.out.1 _) (by omega) (bdrewN HB.out _) ?_; intro w3 hR3 hB3 hg3; have HR3 := Aside0.mk hR3; have HB3 := Aside0.mk hB3; clear hR3 hB3 hg3)
          go_roundg (gO - 1)
          case measure => have := HG.out; omega
          exact ⟨i + 1, by have := HG.out; omega, by go_num, ⟨by
            have h1 := HR3.out
            obtain ⟨z, hz⟩ := HP.out.is
            rw [hz, put_set HP.out.le, HOO.out, HN.out] at h1
            exact h1⟩, HB3⟩
        · have hk1 : k - 1 < i + 1 := by omega
          obtain ⟨y, hy, r0, r1, r2, r3, r4, r5, r6, r7, s0, s1, s2, s3, s4, s5, s6, s7⟩ := row_at HR.out.1 hk1
          have hyO : OO[k - 1]? = some y := by
            obtain ⟨z, hz⟩ := HP.out.is
            have := hy.out
            rwa [hz, put_get (by omega) HP.out.le] at this
          have hyL : y ∈ L := List.mem_of_mem_take ((sortL_mem hw.out _ y).1 (by rw [← HOO.out]; exact mem_of hyO))
          have HYO := Aside0.mk hyO
          have HC := Aside0.mk (l01Compare_c A0 c0 R (ad.add (i * 8)) ⟨g, (k - 1) * 8, none⟩ x' y (HOK.out _ (mem_of hx.out)) (HOK.out _ hyL) wr.drew (Kd.C_below HR0.out (bdrew HB.out)) HKK.out (hxb'.below (bdrew (Below.refl _ _))) ⟨r0, r1, r2, r3, r4, r5, r6, r7⟩)
          have e0 : decide (0 < k) = true := by simp; omega
          have q0 : (0 : Int) ≤ (k : Int) := by omega
          have q1 : (1 : Int) ≤ (k : Int) := by omega
          have q2 : (k : Int) < (i : Int) + 1 := by omega
          have q3 : (k : Int) < (i : Int) + 1 + 1 := by omega
          have q4 : (k : Int) - 1 < (i : Int) + 1 := by omega
          have q5 : (0 : Int) ≤ (k : Int) - 1 := by omega
          have q6 : ((k : Int) - 1).toNat = k - 1 := by omega
          have q7 : IntKind.i64.wrap ((k : Int) - 1) = (k : Int) - 1 := by simp only [IntKind.wrap, IntKind.bits, IntKind.signed, Bool.true_and, decide_eq_true_eq, ge_iff_le]; split <;> omega
          have HK := Aside0.mk hk0
          clear hyO hyL hk0 hxb' r0 r1 r2 r3 r4 r5 r6 r7 s0 s1 s2 s3 s4 s5 s6 s7
          go_wp2_with fail
          go_still_tail 11, (by kernel_rfl)
          go_wp2_with fail
          refine HC.out.mono ?_; rintro _ w2 ⟨rfl, hb2⟩
          have HR2 := Aside0.mk (RowIs.below (RowIs.drew HR.out) hb2)
          have HB2 := Aside0.mk (bstep (bdrew HB.out) hb2)
          have HX2 := Aside0.mk ((HXB.out.below (bdrew (Below.refl _ _))).below hb2)
          clear hb2
          by_cases hlow : cmpBy R x' y < 0
          · have e4 : decide (cmpBy R x' y < 0) = true := by simpa using hlow
            have HS := Aside0.mk (show ∀ q, q ∈ OO.drop (k - 1) → ltBy R x' q = true by
              intro q hq
              rw [drop_cons HYO.out] at hq
              rcases List.mem_cons.1 hq with rfl | hq
              · exact e4
              · exact HP.out.up q (by rw [show k = k - 1 + 1 by have := HK.out; omega]; exact hq))
            obtain ⟨r0, r1, r2, r3, r4, r5, r6, r7, s0, s1, s2, s3, s4, s5, s6, s7⟩ := row_of HR2.out.1 hk1 hy.out
            go_wp2_with (refine bk_store (w := w) w.heap.size rfl rfl (.tmp 45) (.tmp 44) rfl k _ y (fun _ => True) rfl (by omega) rfl HR2.out.1 (by omega) HB2.out ?_; intro w3 hR3 hB3 hg3; have HR3 := Aside0.mk (show RowIs w.heap.size (fun _ => True) w1 g (i + 1) cap (C.set k y) w3 from ⟨hR3, HR2.out.2.trans hg3⟩); have HB3 := Aside0.mk hB3; clear hR3 hB3 hg3)
            go_roundg (k - 1)
            case measure => have := HK.out; omega
            exact ⟨k - 1, C.set k y, rfl, by first | go_num | (congr 1; have := HK.out; omega), ⟨⟨by omega, ⟨y, by obtain ⟨z, hz⟩ := HP.out.is; rw [hz]; exact put_step (by have := HK.out; omega) HYO.out⟩, HS.out⟩⟩, HR3, HB3⟩
          · have e4 : decide (cmpBy R x' y < 0) = false := by simpa using hlow
            have HN := Aside0.mk (put_end (k := k) hw.out hx.out (by rw [← HOO.out]; omega) (by rw [← HOO.out]; exact HP.out.up) (.inr ⟨y, by rw [← HOO.out]; exact HYO.out, e4⟩))
            obtain ⟨x0, x1, x2, x3, x4, x5, x6, x7⟩ := HX2.out
            go_wp2_with (refine bk_store (w := w) w.heap.size rfl rfl (.tmp 54) (.tmp 53) rfl k _ x' (fun _ => True) rfl (by omega) rfl HR2.out.1 (by omega) HB2.out ?_; intro w3 hR3 hB3 hg3; have HR3 := Aside0.mk hR3; have HB3 := Aside0.mk hB3; clear hR3 hB3 hg3)
            go_roundg (gO - 1)
            case measure => have := HG.out; omega
            exact ⟨i + 1, by have := HG.out; omega, by go_num, ⟨by
              have h1 := HR3.out
              obtain ⟨z, hz⟩ := HP.out.is
              rw [hz, put_set HP.out.le, HOO.out, HN.out] at h1
              exact h1⟩, HB3⟩
    · go_wp2
      go_ret
      exact ⟨_, rfl, HB.out, by have := HR.out; rw [List.take_of_length_le (by omega)] at this; exact this⟩
theorem u64_wrap (n : Int) : IntKind.u64.wrap n = n % 18446744073709551616 := by simp [IntKind.wrap, IntKind.bits, IntKind.signed]
theorem u64_and255 {x : Int} (h0 : 0 ≤ x) (h1 : x < 18446744073709551616) : Go.bits .and .u64 x 255 = x % 256 :=
  bits_mask .u64 64 (by decide) (fun n h0 h1 => by rw [u64_wrap]; omega) 8 (by decide) x h0 h1
theorem wrap_suc' (n : Nat) (h : n ≤ 1000000) : IntKind.i64.wrap ((n : Int) + 1) = (n : Int) + 1 := by rw [IntKind.wrap_i64]; omega
/-- A source at block g: it has given at bytes of the text. -/
structure Src (w0 w : World) (g : Nat) (A : Option Addr) (c : Nat) (Cd : List Int) (at_ : Nat) : Prop where
  below : Below w0.heap.size w0 w
  base : w0.heap.size ≤ g
  code : (Kd.int .u8).C w0 A Cd.length Cd
  ok : ∀ x, x ∈ Cd → 0 ≤ x ∧ x ≤ 255
  blk : ∃ sd : Int, w.heap[g]? = some (.cells #[.slice A Cd.length c, .int .i64 at_, .int .u64 sd] 153 (0, 0)) ∧ 0 ≤ sd ∧ sd ≤ 18446744073709551615
theorem Src.step {w0 w w' : World} {g : Nat} {A : Option Addr} {c : Nat} {Cd : List Int} {at_ : Nat} (h : Src w0 w g A c Cd at_) (hb : Below w.heap.size w w') : Src w0 w' g A c Cd at_ := by
  obtain ⟨sd, h1, h2⟩ := h.blk
  exact ⟨bstep h.below hb, h.base, h.code, h.ok, sd, (hb.block g (Array.getElem?_eq_some_iff.1 h1).1).trans h1, h2⟩
theorem Src.lt {w0 w : World} {g : Nat} {A : Option Addr} {c : Nat} {Cd : List Int} {at_ : Nat} (h : Src w0 w g A c Cd at_) : g < w.heap.size := by
  obtain ⟨sd, h1, h2⟩ := h.blk
  exact (Array.getElem?_eq_some_iff.1 h1).1
/-- What else is written leaves the source as it was. -/
theorem Src.grown {w0 w w' : World} {g : Nat} {A : Option Addr} {c : Nat} {Cd : List Int} {at_ : Nat} {r : Option Nat} (h : Src w0 w g A c Cd at_) (hg : w.grownBy w' r) (hr : ∀ b, r = some b → g < b) : Src w0 w' g A c Cd at_ := by
  obtain ⟨sd, h1, h2⟩ := h.blk
  have hb := h.base
  exact ⟨pw_below_grown h.below r h.below.size hg (fun b e => by have := hr b e; omega), h.base, h.code, h.ok, sd, (hg.block g (Array.getElem?_eq_some_iff.1 h1).1 (fun e => by have := hr g e.symm; omega)).trans h1, h2⟩
/-- A number from lo to hi was drawn, with d bytes at most. -/
def Drew (w0 w : World) (g : Nat) (A : Option Addr) (c : Nat) (Cd : List Int) (at_ d : Nat) (lo hi : Int) (e : Ending) (w' : World) : Prop :=
  ∃ (r : Int) (a' : Nat), e = .returned (.int .i64 r) ∧ (lo ≤ r ∧ r ≤ hi) ∧ a' ≤ at_ + d ∧ Src w0 w' g A c Cd a' ∧ w.grownBy w' (some g)
theorem grown_put {w w1 : World} {g : Nat} (h : w.grownBy w1 (some g)) (i : Nat) (v : Value) : w.grownBy (w1.setCell ⟨g, i, none⟩ v) (some g) :=
  World.grownBy.trans h ⟨rfl, rfl, rfl, by simp, fun k _ hk => Below.heap_setCell w1 ⟨g, i, none⟩ _ k (fun e => hk (by rw [e]))⟩
theorem src_cells {w : World} {g : Nat} {A : Option Addr} {n c at_ : Nat} {sd : Int} (h : w.heap[g]? = some (.cells #[.slice A n c, .int .i64 at_, .int .u64 sd] 153 (0, 0))) :
    w.cell? ⟨g, 0, none⟩ = some (.slice A n c) ∧ w.cell? ⟨g, 1, none⟩ = some (.int .i64 at_) ∧ w.cell? ⟨g, 2, none⟩ = some (.int .u64 sd) ∧ w.frozen? ⟨g, 1, none⟩ = false ∧ w.frozen? ⟨g, 2, none⟩ = false :=
  ⟨(blk_cell h 0).trans rfl, (blk_cell h 1).trans rfl, (blk_cell h 2).trans rfl, blk_frozen h 1, blk_frozen h 2⟩
theorem bits255 {sd : Int} (h0 : 0 ≤ sd) (h1 : sd ≤ 18446744073709551615) : 0 ≤ Go.bits .and .u64 (sd / 1099511627776) 255 ∧ Go.bits .and .u64 (sd / 1099511627776) 255 ≤ 255 := by
  rw [u64_and255 (by omega) (by omega)]
  omega
theorem wrap_u64_bd (n : Int) : 0 ≤ IntKind.u64.wrap n ∧ IntKind.u64.wrap n ≤ 18446744073709551615 := by rw [u64_wrap]; omega
theorem grown_trans' {w w1 w2 : World} {r : Option Nat} (h : w.grownBy w1 r) (k : Below w1.heap.size w1 w2) : w.grownBy w2 r := World.grownBy.trans h (grown_of_below k r)
theorem src_new {w0 w w5 : World} {g : Nat} {A : Option Addr} {c : Nat} {Cd : List Int} {at_ : Nat} {S : Int} (h : Src w0 w g A c Cd at_) (hz : w5.heap[g]? = some (.cells #[.slice A Cd.length c, .int .i64 ((at_ : Int) + 1), .int .u64 S] 153 (0, 0))) (hS : 0 ≤ S ∧ S ≤ 18446744073709551615) (hg : w.grownBy w5 (some g)) : Src w0 w5 g A c Cd (at_ + 1) :=
  ⟨pw_below_grown h.below (some g) h.below.size hg (fun b e => by cases e; exact h.base), h.base, h.code, h.ok, S, by rw [show ((at_ + 1 : Nat) : Int) = (at_ : Int) + 1 by omega]; exact hz, hS.1, hS.2⟩
set_option maxHeartbeats 4000000 in
theorem next_c {w0 : World} {g : Nat} {A : Option Addr} {c : Nat} {Cd : List Int} {at_ : Nat} (hat : at_ ≤ 1000000) (w : World) (hs : Src w0 w g A c Cd at_) :
    Calls Tryz.prog 147 #[.pointer (some ⟨g, 0, none⟩)] w (Drew w0 w g A c Cd at_ 1 0 255) := by
  have hm := Kd.C_max hs.code
  obtain ⟨sd, hblk, hsd0, hsd1⟩ := hs.blk
  have HS := Aside0.mk hs
  have HG := Aside0.mk (fun W (h : Below w.heap.size w W) => (h.block g (Array.getElem?_eq_some_iff.1 hblk).1).trans hblk)
  have hwa := wrap_suc' at_ hat
  obtain ⟨y0, y1, y2, f1, f2⟩ := src_cells hblk
  have yO0 : ∀ p : Over w, _ := Over.cell y0
  have yO1 : ∀ p : Over w, _ := Over.cell y1
  have i0 : (0 : Int) ≤ (at_ : Int) := by omega
  by_cases hlt : at_ < Cd.length
  · obtain ⟨ad, x, rfl, hx, hxx⟩ := at_int' (Kd.C_below hs.code hs.below) at_ hlt
    have HXX := Aside0.mk hxx
    have HU := Aside0.mk (hs.ok x (mem_of hx.out))
    have d0 : decide ((at_ : Int) < (Cd.length : Int)) = true := decide_eq_true (by omega)
    have d0' : decide (at_ < Cd.length) = true := decide_eq_true hlt
    have d1 : decide ((at_ : Int) + 1 ≤ (Cd.length : Int)) = true := decide_eq_true (by omega)
    have d1' : decide (at_ + 1 ≤ Cd.length) = true := decide_eq_true (by omega)
    have i1 : (at_ : Int) < (Cd.length : Int) := by omega
    have hwx : wrap64 x = x := by have := HU.out; unfold wrap64; omega
    clear hs hblk hx hxx
    go_enter Tryz.func147, Tryz.ntmps147
    go_wp2_with fail
    refine region_over (by kernel_rfl) (by kernel_rfl) ?_
    repeat (go_big_quiet_step (fail))
    refine wpQuiet_nil ?_
    intro q1 hw'
    have hq_q1 := over_out hw'
    clear hw'
    have HQ1 := Aside0.mk hq_q1
    have hx1 := pw_cell_below hq_q1 HXX.out
    clear y0 y1 y2 f1 f2 yO0 yO1
    obtain ⟨y0, y1, y2, f1, f2⟩ := src_cells (HG.out _ hq_q1)
    have yO0 : ∀ p : Over q1, _ := Over.cell y0
    have yO1 : ∀ p : Over q1, _ := Over.cell y1
    have xO : ∀ p : Over q1, _ := Over.cell hx1
    clear hq_q1
    go_wp2_with fail
    refine region_over (by kernel_rfl) (by kernel_rfl) ?_
    repeat (go_big_quiet_step (fail))
    refine wpQuiet_nil ?_
    intro q2 hw'
    have hq_q2 := over_out hw'
    clear hw'
    have HQ2 := Aside0.mk (bstep HQ1.out hq_q2)
    clear y0 y1 y2 f1 f2 yO0 yO1 xO hx1 hq_q2
    obtain ⟨y0, y1, y2, f1, f2⟩ := src_cells (HG.out _ HQ2.out)
    have hp := blk_put (HG.out _ HQ2.out) 1 (.int .i64 ((at_ : Int) + 1)) rfl
    have c2 : (q2.setCell ⟨g, 1, none⟩ (.int .i64 ((at_ : Int) + 1))).cell? ⟨g, 2, none⟩ = some (.int .u64 sd) := (blk_cell hp 2).trans rfl
    have g2 := blk_frozen hp 2
    have HP := Aside0.mk hp
    clear hp
    go_wp2_with fail
    generalize hS5 : IntKind.u64.wrap (_ + 1442695040888963407) = S5
    have HS5 := Aside0.mk (show 0 ≤ S5 ∧ S5 ≤ 18446744073709551615 from by rw [← hS5]; exact wrap_u64_bd _)
    have hz := blk_put HP.out 2 (.int .u64 S5) rfl
    have hgr := grown_put (grown_put (grown_of_below HQ2.out (some g)) 1 (.int .i64 ((at_ : Int) + 1))) 2 (.int .u64 S5)
    clear hS5 y0 y1 y2 f1 f2 c2 g2 HP
    generalize World.setCell (World.setCell _ _ _) _ _ = w5 at hz hgr ⊢
    obtain ⟨y0, y1, y2, f1, f2⟩ := src_cells (at_ := at_ + 1) (by rw [show ((at_ + 1 : Nat) : Int) = (at_ : Int) + 1 by omega]; exact hz)
    rw [show ((at_ + 1 : Nat) : Int) = (at_ : Int) + 1 by omega] at y1
    have HSN := Aside0.mk (src_new HS.out hz HS5.out hgr)
    have HGR := Aside0.mk hgr
    have yO0 : ∀ p : Over w5, _ := Over.cell y0
    have yO1 : ∀ p : Over w5, _ := Over.cell y1
    clear hz hgr
    refine region_over (by kernel_rfl) (by kernel_rfl) ?_
    repeat (go_big_quiet_step (fail))
    refine wpQuiet_nil ?_
    intro q3 hw'
    have hq_q3 := over_out hw'
    clear hw'
    have HS3 := Aside0.mk (HSN.out.step hq_q3)
    have HG3 := Aside0.mk (grown_trans' HGR.out hq_q3)
    have hy2 := pw_cell_below hq_q3 y2
    clear y0 y1 y2 f1 f2 yO0 yO1 hq_q3
    go_wp2
    go_ret
    refine ⟨_, at_ + 1, rfl, ?_, by omega, HS3.out, HG3.out⟩
    first | exact HU.out | (rw [hwx]; exact HU.out) | (have := HU.out; unfold wrap64; omega)
  · have d0 : decide ((at_ : Int) < (Cd.length : Int)) = false := decide_eq_false (by omega)
    have d0' : decide (at_ < Cd.length) = false := decide_eq_false hlt
    have d1 : decide ((at_ : Int) + 1 ≤ (Cd.length : Int)) = false := decide_eq_false (by omega)
    have d1' : decide (at_ + 1 ≤ Cd.length) = false := decide_eq_false (by omega)
    clear hs hblk hlt
    go_enter Tryz.func147, Tryz.ntmps147
    go_wp2_with fail
    refine region_over (by kernel_rfl) (by kernel_rfl) ?_
    repeat (go_big_quiet_step (fail))
    refine wpQuiet_nil ?_
    intro q1 hw'
    have hq_q1 := over_out hw'
    clear hw'
    have HQ1 := Aside0.mk hq_q1
    clear y0 y1 y2 f1 f2 yO0 yO1 hq_q1
    obtain ⟨y0, y1, y2, f1, f2⟩ := src_cells (HG.out _ HQ1.out)
    have hp := blk_put (HG.out _ HQ1.out) 1 (.int .i64 ((at_ : Int) + 1)) rfl
    have c2 : (q1.setCell ⟨g, 1, none⟩ (.int .i64 ((at_ : Int) + 1))).cell? ⟨g, 2, none⟩ = some (.int .u64 sd) := (blk_cell hp 2).trans rfl
    have g2 := blk_frozen hp 2
    have HP := Aside0.mk hp
    clear hp
    go_wp2_with fail
    generalize hS5 : IntKind.u64.wrap (_ + 1442695040888963407) = S5
    have HS5 := Aside0.mk (show 0 ≤ S5 ∧ S5 ≤ 18446744073709551615 from by rw [← hS5]; exact wrap_u64_bd _)
    have hz := blk_put HP.out 2 (.int .u64 S5) rfl
    have hgr := grown_put (grown_put (grown_of_below HQ1.out (some g)) 1 (.int .i64 ((at_ : Int) + 1))) 2 (.int .u64 S5)
    clear hS5 y0 y1 y2 f1 f2 c2 g2 HP
    generalize World.setCell (World.setCell _ _ _) _ _ = w5 at hz hgr ⊢
    obtain ⟨y0, y1, y2, f1, f2⟩ := src_cells (at_ := at_ + 1) (by rw [show ((at_ + 1 : Nat) : Int) = (at_ : Int) + 1 by omega]; exact hz)
    rw [show ((at_ + 1 : Nat) : Int) = (at_ : Int) + 1 by omega] at y1
    have HSN := Aside0.mk (src_new HS.out hz HS5.out hgr)
    have HGR := Aside0.mk hgr
    have yO0 : ∀ p : Over w5, _ := Over.cell y0
    have yO1 : ∀ p : Over w5, _ := Over.cell y1
    clear hz hgr
    refine region_over (by kernel_rfl) (by kernel_rfl) ?_
    repeat (go_big_quiet_step (fail))
    refine wpQuiet_nil ?_
    intro q3 hw'
    have hq_q3 := over_out hw'
    clear hw'
    have HS3 := Aside0.mk (HSN.out.step hq_q3)
    have HG3 := Aside0.mk (grown_trans' HGR.out hq_q3)
    have hy2 := pw_cell_below hq_q3 y2
    clear y0 y1 y2 f1 f2 yO0 yO1 hq_q3
    have hb255 := bits255 HS5.out.1 HS5.out.2
    have hw255 : IntKind.i64.wrap (Go.bits .and .u64 (S5 / 1099511627776) 255) = Go.bits .and .u64 (S5 / 1099511627776) 255 := by rw [IntKind.wrap_i64]; omega
    go_wp2
    go_ret
    exact ⟨_, at_ + 1, rfl, hb255, by omega, HS3.out, HG3.out⟩
theorem Drew.weaken {w0 w w' : World} {g : Nat} {A : Option Addr} {c : Nat} {Cd : List Int} {at_ d d' : Nat} {lo hi lo' hi' : Int} {e : Ending} (h : Drew w0 w g A c Cd at_ d lo hi e w') (h1 : lo' ≤ lo) (h2 : hi ≤ hi') (h3 : d ≤ d') : Drew w0 w g A c Cd at_ d' lo' hi' e w' := by
  obtain ⟨r, a', he, hr, ha, hs, hg⟩ := h
  exact ⟨r, a', he, ⟨by omega, by omega⟩, by omega, hs, hg⟩
set_option maxHeartbeats 4000000 in
theorem pick_c {w0 : World} {g : Nat} {A : Option Addr} {c : Nat} {Cd : List Int} {at_ : Nat} (hat : at_ ≤ 999000) (n : Int) (hn0 : 0 ≤ n) (hn : n ≤ 10000) (w : World) (hs : Src w0 w g A c Cd at_) :
    Calls Tryz.prog 86 #[.pointer (some ⟨g, 0, none⟩), .int .i64 n] w (Drew w0 w g A c Cd at_ 2 0 (if n ≤ 1 then 0 else n - 1)) := by
  have HS := Aside0.mk hs
  by_cases h1 : n ≤ 1
  · rw [if_pos h1]
    clear hs
    go_enter Tryz.func86, Tryz.ntmps86
    go_wp2
    go_ret
    exact ⟨0, at_, rfl, by omega, by omega, HS.out, World.grownBy.refl _ _⟩
  · rw [if_neg h1]
    have HN := Aside0.mk (next_c (w0 := w0) (g := g) (A := A) (c := c) (Cd := Cd) (by omega) w hs)
    clear hs
    by_cases h2 : 200 < n
    · go_enter Tryz.func86, Tryz.ntmps86
      go_wp2_with fail
      refine HN.out.mono ?_; rintro _ w1 ⟨x, a1, rfl, hx, ha1, hs1, hg1⟩
      have HG1 := Aside0.mk hg1
      have HN2 := Aside0.mk (next_c (w0 := w0) (g := g) (A := A) (c := c) (Cd := Cd) (by omega) w1 hs1)
      obtain ⟨x0, x1⟩ := hx
      have hw1 : IntKind.i64.wrap (x * 256) = x * 256 := by rw [IntKind.wrap_i64]; omega
      clear hs1 hg1
      go_wp2_with fail
      refine HN2.out.mono ?_; rintro _ w2 ⟨y, a2, rfl, hy, ha2, hs2, hg2⟩
      obtain ⟨z0, z1⟩ := hy
      have HS2 := Aside0.mk hs2
      have HG2 := Aside0.mk (World.grownBy.trans HG1.out hg2)
      have hw2 : IntKind.i64.wrap (x * 256 + y) = x * 256 + y := by rw [IntKind.wrap_i64]; omega
      have e2 := Int.emod_nonneg (x * 256 + y) (b := n) (by omega)
      have e3 := Int.emod_lt_of_pos (x * 256 + y) (b := n) (by omega)
      have hn1 : ¬ (n = 0) := by omega
      clear hs2 hg2
      go_wp2
      go_ret
      exact ⟨_, a2, rfl, ⟨by omega, by omega⟩, by omega, HS2.out, HG2.out⟩
    · go_enter Tryz.func86, Tryz.ntmps86
      go_wp2_with fail
      refine HN.out.mono ?_; rintro _ w1 ⟨x, a1, rfl, hx, ha1, hs1, hg1⟩
      have HG1 := Aside0.mk hg1
      have HS1 := Aside0.mk hs1
      obtain ⟨x0, x1⟩ := hx
      have e2 := Int.emod_nonneg x (b := n) (by omega)
      have e3 := Int.emod_lt_of_pos x (b := n) (by omega)
      have hn1 : ¬ (n = 0) := by omega
      clear hs1 hg1
      go_wp2
      go_ret
      exact ⟨_, a1, rfl, ⟨by omega, by omega⟩, by omega, HS1.out, HG1.out⟩
/-- Once in n times. -/
def DrewB (w0 w : World) (g : Nat) (A : Option Addr) (c : Nat) (Cd : List Int) (at_ d : Nat) (e : Ending) (w' : World) : Prop :=
  ∃ (b : Bool) (a' : Nat), e = .returned (.bool b) ∧ a' ≤ at_ + d ∧ Src w0 w' g A c Cd a' ∧ w.grownBy w' (some g)
set_option maxHeartbeats 2000000 in
theorem one_c {w0 : World} {g : Nat} {A : Option Addr} {c : Nat} {Cd : List Int} {at_ : Nat} (hat : at_ ≤ 999000) (w : World) (hs : Src w0 w g A c Cd at_) :
    Calls Tryz.prog 96 #[.pointer (some ⟨g, 0, none⟩), .int .i64 2] w (DrewB w0 w g A c Cd at_ 2) := by
  have HP := Aside0.mk (pick_c (w0 := w0) (g := g) (A := A) (c := c) (Cd := Cd) hat 2 (by omega) (by omega) w hs)
  clear hs
  go_enter Tryz.func96, Tryz.ntmps96
  go_wp2_with fail
  refine HP.out.mono ?_; rintro _ w1 ⟨x, a1, rfl, hx, ha1, hs1, hg1⟩
  have HG1 := Aside0.mk hg1
  have HS1 := Aside0.mk hs1
  clear hs1 hg1 hx
  go_wp2
  go_ret
  exact ⟨_, a1, rfl, ha1, HS1.out, HG1.out⟩
/-- One of some numbers. -/
def DrewIn (w0 w : World) (g : Nat) (A : Option Addr) (c : Nat) (Cd : List Int) (at_ d : Nat) (L : List Int) (e : Ending) (w' : World) : Prop :=
  ∃ (r : Int) (a' : Nat), e = .returned (.int .i64 r) ∧ r ∈ L ∧ a' ≤ at_ + d ∧ Src w0 w' g A c Cd a' ∧ w.grownBy w' (some g)
set_option maxHeartbeats 2000000 in
theorem among_c {w0 : World} {g : Nat} {A : Option Addr} {c : Nat} {Cd : List Int} {at_ : Nat} (hat : at_ ≤ 999000) (Ad : Addr) (cd : Nat) (L : List Int) (hl : 2 ≤ L.length) (hl2 : L.length ≤ 100) (hne : Ad.block ≠ g) (w : World) (hs : Src w0 w g A c Cd at_) (hL : (Kd.int .i64).C w (some Ad) L.length L) :
    Calls Tryz.prog 163 #[.pointer (some ⟨g, 0, none⟩), .slice (some Ad) L.length cd] w (DrewIn w0 w g A c Cd at_ 2 L) := by
  have HL := Aside0.mk hL
  have HP := Aside0.mk (pick_c (w0 := w0) (g := g) (A := A) (c := c) (Cd := Cd) hat L.length (by omega) (by omega) w hs)
  clear hs hL
  go_enter Tryz.func163, Tryz.ntmps163
  go_wp2_with fail
  refine HP.out.mono ?_; rintro _ w1 ⟨x, a1, rfl, hx, ha1, hs1, hg1⟩
  rw [if_neg (by omega)] at hx
  have HG1 := Aside0.mk hg1
  have HS1 := Aside0.mk hs1
  obtain ⟨i, rfl⟩ := Int.eq_ofNat_of_zero_le hx.1
  obtain ⟨ad, y, e, hy, hyy⟩ := at_int' HL.out i (by omega)
  cases e
  have hy1 : w1.cell? (Ad.add i) = some (.int .i64 y) := by
    have hlt := World.block_lt_of_cell? w _ hyy
    have hb : (Ad.add i).block = Ad.block := by unfold Addr.add; split <;> rfl
    rw [← hyy]
    exact World.cell?_of_block (w := w) (hg1.block _ hlt (by rw [hb]; exact fun e => hne (Option.some.inj e)))
  have HY := Aside0.mk (mem_of hy.out)
  have i0 : (0 : Int) ≤ (i : Int) := by omega
  have i1 : (i : Int) < (L.length : Int) := by omega
  clear hs1 hg1 hx hyy
  go_wp2
  go_ret
  exact ⟨_, a1, rfl, HY.out, ha1, HS1.out, HG1.out⟩
/-- A valid book was drawn. -/
def DrewBk (w0 w : World) (g : Nat) (A : Option Addr) (c : Nat) (Cd : List Int) (at_ d : Nat) (e : Ending) (w' : World) : Prop :=
  ∃ (b : Bk) (a' : Nat), e = .returned b.val ∧ vBook b = true ∧ b.ok ∧ a' ≤ at_ + d ∧ Src w0 w' g A c Cd a' ∧ w.grownBy w' (some g)
theorem blk_grown {w w' : World} {r : Option Nat} {p : Nat} {o : Obj} (h : w.heap[p]? = some o) (hg : w.grownBy w' r) (hne : some p ≠ r) : w'.heap[p]? = some o :=
  (hg.block p (Array.getElem?_eq_some_iff.1 h).1 hne).trans h
theorem grown_set (w : World) (p i : Nat) (v : Value) : w.grownBy (w.setCell ⟨p, i, none⟩ v) (some p) :=
  ⟨rfl, rfl, rfl, by simp, fun k _ hk => Below.heap_setCell w ⟨p, i, none⟩ _ k (fun e => hk (by rw [e]))⟩
theorem grown_new {w w1 : World} {r : Option Nat} (h : w.grownBy w1 r) {p : Nat} (hp : w.heap.size ≤ p) (i : Nat) (v : Value) : w.grownBy (w1.setCell ⟨p, i, none⟩ v) r :=
  ⟨h.os, h.tape, h.output, by have := h.size; simpa using this, fun k hk hne => (Below.heap_setCell w1 ⟨p, i, none⟩ _ k (show k ≠ p by omega)).trans (h.block k hk hne)⟩
/-- A result's block and a block in the making, with a source. -/
structure OneS (w0 w : World) (g : Nat) (A : Option Addr) (c : Nat) (Cd : List Int) (t : TypeId) (R : Nat) (cr : Array Value) (P : Nat) (cs : Array Value) (at_ : Nat) (W : World) : Prop where
  src : Src w0 W g A c Cd at_
  gr : w.grownBy W (some g)
  r : W.heap[R]? = some (.cells cr t (0, 0))
  p : W.heap[P]? = some (.cells cs t (0, 0))
  gR : g < R
  gP : g < P
  rP : R < P
  wP : w.heap.size ≤ R
theorem OneS.pick {w0 w W W' : World} {g : Nat} {A : Option Addr} {c : Nat} {Cd : List Int} {t : TypeId} {R P : Nat} {cr cs : Array Value} {at_ a' : Nat} (h : OneS w0 w g A c Cd t R cr P cs at_ W) (hs : Src w0 W' g A c Cd a') (hg : W.grownBy W' (some g)) : OneS w0 w g A c Cd t R cr P cs a' W' :=
  ⟨hs, World.grownBy.trans h.gr hg, blk_grown h.r hg (fun e => by have := h.gR; have := Option.some.inj e; omega), blk_grown h.p hg (fun e => by have := h.gP; have := Option.some.inj e; omega), h.gR, h.gP, h.rP, h.wP⟩
theorem OneS.put {w0 w W : World} {g : Nat} {A : Option Addr} {c : Nat} {Cd : List Int} {t : TypeId} {R P : Nat} {cr cs : Array Value} {at_ : Nat} (h : OneS w0 w g A c Cd t R cr P cs at_ W) (i : Nat) (v : Value) {cs' : Array Value} (e : cs.setIfInBounds i v = cs') : OneS w0 w g A c Cd t R cr P cs' at_ (W.setCell ⟨P, i, none⟩ v) :=
  ⟨h.src.grown (grown_set W P i v) (fun b e => by cases e; exact h.gP), grown_new h.gr (by have := h.wP; have := h.rP; omega) i v, (Below.heap_setCell W ⟨P, i, none⟩ _ R (by have := h.rP; show R ≠ P; omega)).trans h.r, blk_put h.p i v e, h.gR, h.gP, h.rP, h.wP⟩
theorem OneS.putR {w0 w W : World} {g : Nat} {A : Option Addr} {c : Nat} {Cd : List Int} {t : TypeId} {R P : Nat} {cr cs : Array Value} {at_ : Nat} (h : OneS w0 w g A c Cd t R cr P cs at_ W) (i : Nat) (v : Value) {cr' : Array Value} (e : cr.setIfInBounds i v = cr') : OneS w0 w g A c Cd t R cr' P cs at_ (W.setCell ⟨R, i, none⟩ v) :=
  ⟨h.src.grown (grown_set W R i v) (fun b e => by cases e; exact h.gR), grown_new h.gr h.wP i v, blk_put h.r i v e, (Below.heap_setCell W ⟨R, i, none⟩ _ P (by have := h.rP; show P ≠ R; omega)).trans h.p, h.gR, h.gP, h.rP, h.wP⟩
theorem OneS.step {w0 w W W' : World} {g : Nat} {A : Option Addr} {c : Nat} {Cd : List Int} {t : TypeId} {R P : Nat} {cr cs : Array Value} {at_ : Nat} (h : OneS w0 w g A c Cd t R cr P cs at_ W) (hb : Below W.heap.size W W') : OneS w0 w g A c Cd t R cr P cs at_ W' :=
  ⟨h.src.step hb, grown_trans' h.gr hb, blk_below h.r hb, blk_below h.p hb, h.gR, h.gP, h.rP, h.wP⟩
theorem cells8 {W : World} {P : Nat} {a b c d e f g h : Value} {t : TypeId} (hp : W.heap[P]? = some (.cells #[a, b, c, d, e, f, g, h] t (0, 0))) :
    (W.cell? ⟨P, 0, none⟩ = some a ∧ W.cell? ⟨P, 1, none⟩ = some b ∧ W.cell? ⟨P, 2, none⟩ = some c ∧ W.cell? ⟨P, 3, none⟩ = some d ∧ W.cell? ⟨P, 4, none⟩ = some e ∧ W.cell? ⟨P, 5, none⟩ = some f ∧ W.cell? ⟨P, 6, none⟩ = some g ∧ W.cell? ⟨P, 7, none⟩ = some h) ∧ ∀ i, W.frozen? ⟨P, i, none⟩ = false :=
  ⟨⟨(blk_cell hp 0).trans rfl, (blk_cell hp 1).trans rfl, (blk_cell hp 2).trans rfl, (blk_cell hp 3).trans rfl, (blk_cell hp 4).trans rfl, (blk_cell hp 5).trans rfl, (blk_cell hp 6).trans rfl, (blk_cell hp 7).trans rfl⟩, blk_frozen hp⟩
theorem mark_put {w0 w W : World} {g : Nat} {A : Option Addr} {c : Nat} {Cd : List Int} {t : TypeId} {R P : Nat} {cr : Array Value} {a m0 m1 m2 v x y z : Value} {at_ : Nat} (h : OneS w0 w g A c Cd t R cr P #[a, m0, m1, m2, v, x, y, z] at_ W) {i : Nat} (hi : i < 3) (u : Value) :
    ∃ n0 n1 n2, (n0 = m0 ∨ n0 = u) ∧ (n1 = m1 ∨ n1 = u) ∧ (n2 = m2 ∨ n2 = u) ∧ OneS w0 w g A c Cd t R cr P #[a, n0, n1, n2, v, x, y, z] at_ (W.setCell ⟨P, 1 + i, none⟩ u) := by
  match i, hi with
  | 0, _ => exact ⟨_, _, _, .inr rfl, .inl rfl, .inl rfl, h.put 1 u rfl⟩
  | 1, _ => exact ⟨_, _, _, .inl rfl, .inr rfl, .inl rfl, h.put 2 u rfl⟩
  | 2, _ => exact ⟨_, _, _, .inl rfl, .inl rfl, .inr rfl, h.put 3 u rfl⟩
set_option maxHeartbeats 8000000 in
theorem l01One_c {w0 : World} {g : Nat} {A : Option Addr} {c : Nat} {Cd : List Int} {at_ : Nat} (hat : at_ ≤ 900000) (w : World) (hs : Src w0 w g A c Cd at_) :
    Calls Tryz.prog 70 #[.pointer (some ⟨g, 0, none⟩)] w (DrewBk w0 w g A c Cd at_ 14) := by
  have hgl := hs.lt
  obtain ⟨zb, hzb⟩ : ∃ z : Array Value, #[.int .i16 0, .int .u8 0, .int .u8 0, .int .u8 0, .int .i16 0, .int .i16 0, .int .i16 0, .int .i16 0] = z := ⟨_, rfl⟩
  have HZB := Aside0.mk hzb
  have HS0 := Aside0.mk (fun W (e : w.alloc (.cells zb 30) = W) => (show Src w0 W g A c Cd at_ ∧ W.heap[w.heap.size]? = some (.cells zb 30 (0, 0)) ∧ w.grownBy W (some g) ∧ W.heap.size = w.heap.size + 1 from by subst e; exact ⟨hs.step (balloc (Below.refl _ _) _), blk_new w _, grown_of_below (balloc (Below.refl w.heap.size w) _) (some g), by simp⟩))
  clear hs
  go_enter Tryz.func70, Tryz.ntmps70
  go_wp2_with fail
  clear hzb
  generalize hW1 : w.alloc (.cells zb 30) = W1
  obtain ⟨hs1, hr1, hg1, hz1⟩ := HS0.out W1 hW1
  clear hW1 HS0
  refine (pick_c (by omega) 8 (by omega) (by omega) _ hs1).mono ?_; rintro _ w2 ⟨x1, a1, rfl, hx1, ha1, hs2, hg2⟩
  have HR2 := Aside0.mk (blk_grown hr1 hg2 (fun e => by have := Option.some.inj e; omega))
  have HG2 := Aside0.mk (World.grownBy.trans hg1 hg2)
  have hz2 := hg2.size
  have HS2 := Aside0.mk hs2
  obtain ⟨p0, p1⟩ := hx1
  have hw1 : IntKind.i64.wrap (x1 * 100) = x1 * 100 := by rw [IntKind.wrap_i64]; omega
  have hw2 : IntKind.i16.wrap (x1 * 100) = x1 * 100 := by simp only [IntKind.wrap, IntKind.bits, IntKind.signed]; simp; omega
  clear hs1 hr1 hg1 hs2 hg2
  go_wp2_with fail
  refine (pick_c (by omega) 3 (by omega) (by omega) _ HS2.out).mono ?_; rintro _ w3 ⟨x2, a2, rfl, hx2, ha2, hs3, hg3⟩
  have hr3 := blk_grown HR2.out hg3 (fun e => by have := Option.some.inj e; omega)
  have hG3 := World.grownBy.trans HG2.out hg3
  have hz3 := hg3.size
  obtain ⟨q0, q1⟩ := hx2
  have hw3 : IntKind.i64.wrap (1 + x2) = 1 + x2 := by rw [IntKind.wrap_i64]; omega
  have hw4 : IntKind.i16.wrap (1 + x2) = 1 + x2 := by simp only [IntKind.wrap, IntKind.bits, IntKind.signed]; simp; omega
  have HO3 := Aside0.mk (show OneS w0 w g A c Cd 30 w.heap.size zb w3.heap.size #[.int .i16 (x1 * 100), .int .u8 0, .int .u8 0, .int .u8 0, .int .i16 (1 + x2), .int .i16 0, .int .i16 0, .int .i16 0] a2 (w3.alloc (.cells #[.int .i16 (x1 * 100), .int .u8 0, .int .u8 0, .int .u8 0, .int .i16 (1 + x2), .int .i16 0, .int .i16 0, .int .i16 0] 30)) from
    ⟨hs3.step (balloc (Below.refl _ _) _), grown_trans' hG3 (balloc (Below.refl _ _) _), blk_alloc hr3 _, blk_new w3 _, by omega, by omega, by omega, Nat.le_refl _⟩)
  clear hs3 hg3 hr3 hG3 HR2 HG2 HS2
  go_wp2_with fail
  generalize hP : w3.heap.size = P at HO3 ⊢
  generalize World.alloc w3 _ = w4 at HO3 ⊢
  clear hP hz1 hz2 hz3
  obtain ⟨⟨c0, c1, c2, c3, c4, c5, c6, c7⟩, fz⟩ := cells8 HO3.out.p
  have HO4 := Aside0.mk (((HO3.out.put 1 (.int .u8 97) rfl).put 2 (.int .u8 97) rfl).put 3 (.int .u8 97) rfl)
  refine wp_loop_rounds 4 ?_
  iterate 4 (rw [rounds_succ]; go_wp2_with fail)
  clear c0 c1 c2 c3 c4 c5 c6 c7 fz
  generalize World.setCell (World.setCell (World.setCell _ _ _) _ _) _ _ = w5 at HO4 ⊢
  refine (pick_c (by omega) 3 (by omega) (by omega) _ HO4.out.src).mono ?_; rintro _ w6 ⟨x3, a3, rfl, hx3, ha3, hs6, hg6⟩
  have HO6 := Aside0.mk (HO4.out.pick hs6 hg6)
  obtain ⟨r0, r1⟩ := hx3
  clear hs6 hg6
  go_wp2_with fail
  refine (pick_c (by omega) 3 (by omega) (by omega) _ HO6.out.src).mono ?_; rintro _ w7 ⟨x4, a4, rfl, hx4, ha4, hs7, hg7⟩
  have HO7 := Aside0.mk (HO6.out.pick hs7 hg7)
  obtain ⟨i, rfl⟩ := Int.eq_ofNat_of_zero_le r0
  obtain ⟨t0, t1⟩ := hx4
  have hw5 : IntKind.i64.wrap (97 + x4) = 97 + x4 := by rw [IntKind.wrap_i64]; omega
  have hw6 : IntKind.u8.wrap (97 + x4) = 97 + x4 := by rw [IntKind.wrap_u8]; omega
  have hi3 : i < 3 := by simp at r1; omega
  obtain ⟨m0, m1, m2, hm0, hm1, hm2, hO8⟩ := mark_put HO7.out hi3 (.int .u8 (97 + x4))
  have HO8 := Aside0.mk hO8
  have fi := blk_frozen HO7.out.p (1 + i)
  have ci : w7.cell? ⟨P, 1 + i, none⟩ = some (.int .u8 97) := by
    refine (blk_cell HO7.out.p (1 + i)).trans ?_
    match i, hi3 with
    | 0, _ => rfl
    | 1, _ => rfl
    | 2, _ => rfl
  have i0 : (0 : Int) ≤ (i : Int) := by omega
  have i1 : (i : Int) < 3 := by omega
  clear hs7 hg7 hO8 r0 r1
  go_wp2_with fail
  clear fi ci
  generalize World.setCell w7 _ _ = w8 at HO8 ⊢
  obtain ⟨y0, rfl, hy0⟩ : ∃ y, m0 = .int .u8 y ∧ 97 ≤ y ∧ y ≤ 99 := by rcases hm0 with h | h; exact ⟨97, h, by omega, by omega⟩; exact ⟨97 + x4, h, by omega, by omega⟩
  obtain ⟨y1, rfl, hy1⟩ : ∃ y, m1 = .int .u8 y ∧ 97 ≤ y ∧ y ≤ 99 := by rcases hm1 with h | h; exact ⟨97, h, by omega, by omega⟩; exact ⟨97 + x4, h, by omega, by omega⟩
  obtain ⟨y2, rfl, hy2⟩ : ∃ y, m2 = .int .u8 y ∧ 97 ≤ y ∧ y ≤ 99 := by rcases hm2 with h | h; exact ⟨97, h, by omega, by omega⟩; exact ⟨97 + x4, h, by omega, by omega⟩
  clear hm0 hm1 hm2 hw5 hw6
  refine (pick_c (by omega) 9 (by omega) (by omega) _ HO8.out.src).mono ?_; rintro _ w9 ⟨x5, a5, rfl, hx5, ha5, hs9, hg9⟩
  have HO9 := Aside0.mk (HO8.out.pick hs9 hg9)
  obtain ⟨u0, u1⟩ := hx5
  have hv1 : IntKind.i64.wrap (5 * x5) = 5 * x5 := by rw [IntKind.wrap_i64]; omega
  have hv2 : IntKind.i64.wrap (10 + 5 * x5) = 10 + 5 * x5 := by rw [IntKind.wrap_i64]; omega
  have hv3 : IntKind.i16.wrap (10 + 5 * x5) = 10 + 5 * x5 := by simp only [IntKind.wrap, IntKind.bits, IntKind.signed]; simp; omega
  have HO10 := Aside0.mk (HO9.out.put 5 (.int .i16 (10 + 5 * x5)) rfl)
  obtain ⟨⟨c0, c1, c2, c3, c4, c5, c6, c7⟩, fz⟩ := cells8 HO9.out.p
  clear hs9 hg9
  go_wp2_with fail
  clear c0 c1 c2 c3 c4 c5 c6 c7 fz hv1 hv2 hv3
  generalize World.setCell w9 _ _ = w10 at HO10 ⊢
  refine (pick_c (by omega) 12 (by omega) (by omega) _ HO10.out.src).mono ?_; rintro _ w11 ⟨x6, a6, rfl, hx6, ha6, hs11, hg11⟩
  have HO11 := Aside0.mk (HO10.out.pick hs11 hg11)
  obtain ⟨v0, v1⟩ := hx6
  have hv1 : IntKind.i64.wrap (10 * x6) = 10 * x6 := by rw [IntKind.wrap_i64]; omega
  have hv2 : IntKind.i64.wrap (180 + 10 * x6) = 180 + 10 * x6 := by rw [IntKind.wrap_i64]; omega
  have hv3 : IntKind.i16.wrap (180 + 10 * x6) = 180 + 10 * x6 := by simp only [IntKind.wrap, IntKind.bits, IntKind.signed]; simp; omega
  have HO12 := Aside0.mk (HO11.out.put 6 (.int .i16 (180 + 10 * x6)) rfl)
  obtain ⟨⟨c0, c1, c2, c3, c4, c5, c6, c7⟩, fz⟩ := cells8 HO11.out.p
  clear hs11 hg11
  go_wp2_with fail
  clear c0 c1 c2 c3 c4 c5 c6 c7 fz hv1 hv2 hv3
  generalize World.setCell w11 _ _ = w12 at HO12 ⊢
  refine (pick_c (by omega) 20 (by omega) (by omega) _ HO12.out.src).mono ?_; rintro _ w13 ⟨x7, a7, rfl, hx7, ha7, hs13, hg13⟩
  have HO13 := Aside0.mk (HO12.out.pick hs13 hg13)
  obtain ⟨s0, s1⟩ := hx7
  have hv1 : IntKind.i64.wrap (1 + x7) = 1 + x7 := by rw [IntKind.wrap_i64]; omega
  have hv2 : IntKind.i64.wrap ((1 + x7) * 100) = (1 + x7) * 100 := by rw [IntKind.wrap_i64]; omega
  have hv2' : IntKind.i64.wrap (100 * (1 + x7)) = 100 * (1 + x7) := by rw [IntKind.wrap_i64]; omega
  have hv3 : IntKind.i16.wrap (100 * (1 + x7)) = 100 * (1 + x7) := by simp only [IntKind.wrap, IntKind.bits, IntKind.signed]; simp; omega
  have HO14 := Aside0.mk (HO13.out.put 7 (.int .i16 (100 * (1 + x7))) rfl)
  obtain ⟨⟨c0, c1, c2, c3, c4, c5, c6, c7⟩, fz⟩ := cells8 HO13.out.p
  obtain ⟨⟨d0, d1, d2, d3, d4, d5, d6, d7⟩, dz⟩ := cells8 HO14.out.p
  have hr14 := HO14.out.r
  rw [← HZB.out] at hr14
  obtain ⟨⟨e0, e1, e2, e3, e4, e5, e6, e7⟩, ez⟩ := cells8 hr14
  have HO15 := Aside0.mk ((((((((HO14.out.putR 0 (.int .i16 (x1 * 100)) rfl).putR 1 (.int .u8 y0) rfl).putR 2 (.int .u8 y1) rfl).putR 3 (.int .u8 y2) rfl).putR 4 (.int .i16 (1 + x2)) rfl).putR 5 (.int .i16 (10 + 5 * x5)) rfl).putR 6 (.int .i16 (180 + 10 * x6)) rfl).putR 7 (.int .i16 (100 * (1 + x7))) rfl)
  clear hs13 hg13 hr14
  go_wp2_with fail
  clear c0 c1 c2 c3 c4 c5 c6 c7 fz d0 d1 d2 d3 d4 d5 d6 d7 dz e0 e1 e2 e3 e4 e5 e6 e7 ez hv1 hv2 hv2' hv3
  generalize World.setCell (World.setCell (World.setCell (World.setCell (World.setCell (World.setCell (World.setCell (World.setCell (World.setCell w13 _ _) _ _) _ _) _ _) _ _) _ _) _ _) _ _) _ _ = w15 at HO15 ⊢
  have hr15 := HO15.out.r
  rw [← HZB.out] at hr15
  obtain ⟨⟨e0, e1, e2, e3, e4, e5, e6, e7⟩, ez⟩ := cells8 hr15
  have hvb : vBook ⟨x1 * 100, y0, y1, y2, 1 + x2, 10 + 5 * x5, 180 + 10 * x6, 100 * (1 + x7)⟩ = true := by
    unfold vBook vMark
    simp only [Bool.and_eq_true, inR_iff]
    omega
  have hok : (⟨x1 * 100, y0, y1, y2, 1 + x2, 10 + 5 * x5, 180 + 10 * x6, 100 * (1 + x7)⟩ : Bk).ok := by
    unfold Bk.ok I16 U8
    simp only
    omega
  exact bodyPost_ret (v := (⟨x1 * 100, y0, y1, y2, 1 + x2, 10 + 5 * x5, 180 + 10 * x6, 100 * (1 + x7)⟩ : Bk).val) (by simp [results, Tryz.results70, go_sem, e0, e1, e2, e3, e4, e5, e6, e7, Bk.val]) rfl ⟨_, a7, rfl, hvb, hok, by omega, HO15.out.src, HO15.out.gr⟩
def VB (L : List Bk) : Prop := ∀ b, b ∈ L → vBook b = true ∧ b.ok
theorem usualL_ordZ : OrdOk usualL := by
  intro x hx
  refine ⟨usualL_ok x hx, ?_⟩
  simp only [usualL, List.mem_cons, List.not_mem_nil, or_false] at hx
  omega
theorem bk_keep {w w' : World} {base g : Nat} {v : Value} {L : List Bk} (h : kBk.R 30 w base (fun _ => True) v L) (hg : w.grownBy w' (some g)) (hb : g < base) : kBk.R 30 w' base (fun _ => True) v L :=
  Kd.R_mono (Kd.R_grown (Kd.R_tight kBk_E h) hg (fun k hk he => by have := Kd.R_base h k hk.symm; have := Option.some.inj he; omega)) (fun _ _ => trivial)
theorem grown_in {w w1 w2 : World} {r q : Option Nat} (h : w.grownBy w1 r) (hg : w1.grownBy w2 q) (hq : ∀ b, q = some b → w.heap.size ≤ b) : w.grownBy w2 r :=
  ⟨hg.os.trans h.os, hg.tape.trans h.tape, hg.output.trans h.output, Nat.le_trans h.size hg.size, fun k hk hne => (hg.block k (Nat.lt_of_lt_of_le hk h.size) (fun e => by have := hq k e.symm; omega)).trans (h.block k hk hne)⟩
section
variable {ops : Array Oper} {rest : List Oper} {o : Oper} {a : Act} {Q : Exit → Act → World → Prop}
theorem bk_app {W : World} (base : Nat) (hbase : base ≤ W.heap.size) (hgd : o.guard = none) (s x : Operand) (ho : o.op = .call { callee := .builtin .append, args := #[s, x], argTypes := #[24, 24] }) (v : Value) (xs : List Bk) (b : Bk)
    (hs : a.eval s = v) (hx : a.eval x = .slice (some ⟨W.heap.size, 0, none⟩) 1 1) (HO : kBk.R 30 W base (fun _ => True) v xs) (hl : xs.length ≤ 2097152)
    (h : ∀ v1 w1, kBk.R 30 w1 base (fun _ => True) v1 (xs ++ [b]) → W.grownBy w1 v.ownBlock → wpList Tryz.prog ops Q rest (a.put o.dst v1) w1) :
    wpList Tryz.prog ops Q (o :: rest) a (W.alloc (.cells (Bk.cells b).toArray 30)) :=
  Kd.R_append kBk (w0 := W) base hgd s x 24 30 (.agg #[.int .i16 0, .int .u8 0, .int .u8 0, .int .u8 0, .int .i16 0, .int .i16 0, .int .i16 0, .int .i16 0]) 14 ho Tryz.underlying24 info_bk rfl (by decide) (by decide) v xs b (Bk.cells b) (fun _ => True) (fun _ => False) hs hx rfl (fun _ h => h.elim) (fun _ _ => trivial) HO (Below.refl _ _) hbase (by omega)
    (fun v1 w1 h1 h2 h3 _ => h v1 w1 h1 h3)
end
/-- A row of valid books since w, with a source. -/
structure RowS (w0 w : World) (g : Nat) (A : Option Addr) (c : Nat) (Cd : List Int) (v : Value) (L : List Bk) (at_ : Nat) (W : World) : Prop where
  src : Src w0 W g A c Cd at_
  gr : w.grownBy W (some g)
  row : kBk.R 30 W w.heap.size (fun _ => True) v L
  ok : VB L
  gw : g < w.heap.size
section
variable {w0 w W W' : World} {g : Nat} {A : Option Addr} {c : Nat} {Cd : List Int} {v v' : Value} {L L' : List Bk} {at_ a' : Nat}
theorem RowS.pick (h : RowS w0 w g A c Cd v L at_ W) (hs : Src w0 W' g A c Cd a') (hg : W.grownBy W' (some g)) : RowS w0 w g A c Cd v L a' W' :=
  ⟨hs, World.grownBy.trans h.gr hg, bk_keep h.row hg h.gw, h.ok, h.gw⟩
theorem RowS.step (h : RowS w0 w g A c Cd v L at_ W) (hb : Below W.heap.size W W') : RowS w0 w g A c Cd v L at_ W' :=
  ⟨h.src.step hb, grown_trans' h.gr hb, Kd.R_below h.row hb, h.ok, h.gw⟩
/-- The row was written, or laid anew. -/
theorem RowS.wrote (h : RowS w0 w g A c Cd v L at_ W) (hr : kBk.R 30 W' w.heap.size (fun _ => True) v' L') (ho : VB L') (hg : W.grownBy W' v.ownBlock) : RowS w0 w g A c Cd v' L' at_ W' := by
  have hb := Kd.R_base h.row
  have hgw := h.gw
  exact ⟨h.src.grown hg (fun b e => by have := hb b e; omega), grown_in h.gr hg hb, hr, ho, hgw⟩
end
theorem VB.snoc {L : List Bk} {b : Bk} (h : VB L) (h1 : vBook b = true) (h2 : b.ok) : VB (L ++ [b]) := fun x hx => by
  rcases List.mem_append.1 hx with hx | hx
  · exact h x hx
  · rw [List.mem_singleton.1 hx]; exact ⟨h1, h2⟩
theorem VB.set {L : List Bk} {b : Bk} {i : Nat} (h : VB L) (hb : b ∈ L) : VB (L.set i b) := fun x hx => by
  rcases List.mem_or_eq_of_mem_set hx with hx | rfl
  · exact h x hx
  · exact h _ hb
theorem VB.set' {L M : List Bk} {b : Bk} {i : Nat} (h : VB L) (hb : b ∈ M) (hM : VB M) : VB (L.set i b) := fun x hx => by
  rcases List.mem_or_eq_of_mem_set hx with hx | rfl
  · exact h x hx
  · exact hM _ hb
theorem bkAt_grown {w w' : World} {p : Addr} {b : Bk} {r : Option Nat} (h : BkAt w p b) (hg : w.grownBy w' r) (hne : ∀ k, r = some k → p.block ≠ k) : BkAt w' p b := by
  obtain ⟨c0, c1, c2, c3, c4, c5, c6, c7⟩ := h
  have hb : w'.heap[p.block]? = w.heap[p.block]? := hg.block p.block (World.block_lt_of_cell? w p c0) (fun e => hne p.block e.symm rfl)
  exact ⟨(World.cell?_of_block (w := w) (a := p) hb).trans c0, (World.cell?_of_block (w := w) (a := ⟨p.block, p.off + 1, none⟩) hb).trans c1, (World.cell?_of_block (w := w) (a := ⟨p.block, p.off + 2, none⟩) hb).trans c2, (World.cell?_of_block (w := w) (a := ⟨p.block, p.off + 3, none⟩) hb).trans c3, (World.cell?_of_block (w := w) (a := ⟨p.block, p.off + 4, none⟩) hb).trans c4, (World.cell?_of_block (w := w) (a := ⟨p.block, p.off + 5, none⟩) hb).trans c5, (World.cell?_of_block (w := w) (a := ⟨p.block, p.off + 6, none⟩) hb).trans c6, (World.cell?_of_block (w := w) (a := ⟨p.block, p.off + 7, none⟩) hb).trans c7⟩
def DrewL (w0 w : World) (g : Nat) (A : Option Addr) (c : Nat) (Cd : List Int) (e : Ending) (w' : World) : Prop :=
  ∃ v L a', e = .returned v ∧ L.length ≤ 11 ∧ RowS w0 w g A c Cd v L a' w'
set_option maxHeartbeats 8000000 in
theorem l01Drawn_c {w0 : World} {g : Nat} {A : Option Addr} {c : Nat} {Cd : List Int} {at_ : Nat} (hat : at_ ≤ 1000) (w : World) (hs : Src w0 w g A c Cd at_) :
    Calls Tryz.prog 68 #[.pointer (some ⟨g, 0, none⟩)] w (DrewL w0 w g A c Cd) := by
  have hgl := hs.lt
  have HR0 := Aside0.mk (show RowS w0 w g A c Cd (.slice (some ⟨w.heap.size, 0, none⟩) 0 0) [] at_ (w.alloc (.cells #[] 30)) from
    ⟨hs.step (balloc (Below.refl _ _) _), grown_of_below (balloc (Below.refl w.heap.size w) _) (some g), R_zero _ _ _ _ _ (Nat.le_refl _) trivial, (fun b hb => by cases hb), hgl⟩)
  clear hs
  go_enter Tryz.func68, Tryz.ntmps68
  go_wp2_with fail
  refine (pick_c (by omega) 12 (by omega) (by omega) _ HR0.out.src).mono ?_; rintro _ w1 ⟨x1, a1, rfl, hx1, ha1, hs1, hg1⟩
  have HR1 := Aside0.mk (HR0.out.pick hs1 hg1)
  obtain ⟨k, rfl⟩ := Int.eq_ofNat_of_zero_le hx1.1
  have hk12 : k ≤ 11 := by have := hx1.2; simp at this; omega
  clear hs1 hg1 hx1 HR0
  go_wp2_with fail
  go_loopg [3, 4] k (fun gk v3 v4 wr => ∃ (L : List Bk) (a2 : Nat), v4 = .int .i64 gk ∧ Aside0 (L.length + gk ≤ 11 ∧ a2 + 14 * gk ≤ 1200) ∧ Aside0 (RowS w0 w g A c Cd v3 L a2 wr))
  case atStart => exact ⟨[], a1, rfl, ⟨by simp; omega, by omega⟩, HR1⟩
  case round =>
    clear HR1
    obtain ⟨L, a2, rfl, hlen, HR⟩ := hrel
    by_cases hk : 0 < gk
    · have hl1 := hlen.out.1
      have hl2 := hlen.out.2
      have hw1 : IntKind.i64.wrap ((gk : Int) - 1) = (gk : Int) - 1 := by rw [IntKind.wrap_i64]; omega
      go_wp2_with fail
      refine (l01One_c (by omega) _ HR.out.src).mono ?_; rintro _ w2 ⟨b, a3, rfl, hb1, hb2, ha3, hs2, hg2⟩
      have HR2 := Aside0.mk (HR.out.pick hs2 hg2)
      have HBB := Aside0.mk (And.intro hb1 hb2)
      clear hs2 hg2 hb1 hb2
      simp only [Bk.val]
      go_wp2_with (at_builtin; refine bk_app w.heap.size HR2.out.gr.size rfl (.tmp 15) (.tmp 18) rfl _ L b rfl rfl HR2.out.row (by omega) ?_; intro v1 w3 hR3 hg3; have HR3 := Aside0.mk (HR2.out.wrote hR3 (HR2.out.ok.snoc HBB.out.1 HBB.out.2) hg3); clear hR3 hg3)
      go_roundg (gk - 1)
      case measure => omega
      case rel => exact ⟨L ++ [b], a3, by first | go_num | (congr 1; omega), ⟨by rw [List.length_append]; simp; omega, by omega⟩, HR3⟩
    · have hl1 := hlen.out.1
      have hl2 := hlen.out.2
      have hk0 : ¬ ((gk : Int) > 0) := by omega
      go_wp2_with fail
      refine (one_c (by omega) _ HR.out.src).mono ?_; rintro _ w2 ⟨b1, a3, rfl, ha3, hs2, hg2⟩
      have HR2 := Aside0.mk (HR.out.pick hs2 hg2)
      clear hs2 hg2
      cases b1
      · go_wp2_with fail
        go_ret
        exact ⟨_, L, a3, rfl, by omega, HR2.out⟩
      · have hu := three_C (w2.alloc (.cells #[.int .i8 1, .int .i8 2, .int .i8 3] 62)) w2.heap.size 0 1 2 3 ((blk_cell (blk_new w2 _) 0).trans rfl) ((blk_cell (blk_new w2 _) 1).trans rfl) ((blk_cell (blk_new w2 _) 2).trans rfl)
        have HRA := Aside0.mk (HR2.out.step (balloc (Below.refl _ _) (.cells #[.int .i8 1, .int .i8 2, .int .i8 3] 62)))
        obtain ⟨A3, c3, rfl⟩ := Kd.R_slice HR2.out.row
        have HSO := Aside0.mk (l01Sorted_c (some ⟨w2.heap.size, 0, none⟩) A3 3 c3 usualL L (w2.alloc (.cells #[.int .i8 1, .int .i8 2, .int .i8 3] 62)) hu usualL_ordZ (Kd.R_reads' HRA.out.row).2.2 (fun b hb => (HR2.out.ok b hb).2) (by omega))
        have HSL := Aside0.mk (sortL_len (ltBy_wk usualL) L)
        have HSM := Aside0.mk (sortL_mem (ltBy_wk usualL) L)
        clear hu
        go_wp2_with fail
        refine HSO.out.mono ?_; rintro _ w3 ⟨v3, rfl, hb3, hv3⟩
        have HR3 := Aside0.mk (show RowS w0 w g A c Cd v3 (Srt.sortL (ltBy usualL) L) a3 w3 from ⟨HRA.out.src.step hb3, grown_trans' HRA.out.gr hb3, Kd.R_lower hv3 HRA.out.gr.size, fun b hb => HRA.out.ok b ((HSM.out b).1 hb), HRA.out.gw⟩)
        have hl3 := HSL.out
        generalize Srt.sortL (ltBy usualL) L = L3 at HR3 hl3
        clear hb3 hv3 HSO HSL HSM HR2 HRA HR
        obtain ⟨A4, c4, rfl⟩ := Kd.R_slice HR3.out.row
        have HL3 := Aside0.mk hl3
        by_cases hlen2 : 1 < L3.length
        · have d0 : decide ((1 : Int) < (L3.length : Int)) = true := decide_eq_true (by omega)
          have d0' : decide (1 < L3.length) = true := decide_eq_true hlen2
          have hl11 : L3.length ≤ 11 := by omega
          clear hl3
          go_wp2_with fail
          refine (one_c (by omega) _ HR3.out.src).mono ?_; rintro _ w4 ⟨b2, a4, rfl, ha4, hs4, hg4⟩
          have HR4 := Aside0.mk (HR3.out.pick hs4 hg4)
          clear hs4 hg4 d0 d0' HR3
          cases b2
          · go_wp2_with fail
            go_ret
            exact ⟨_, L3, a4, rfl, hl11, HR4.out⟩
          · go_wp2_with fail
            refine (pick_c (by omega) (L3.length : Int) (by omega) (by omega) _ HR4.out.src).mono ?_; rintro _ w5 ⟨xi, a5, rfl, hxi, ha5, hs5, hg5⟩
            have HR5 := Aside0.mk (HR4.out.pick hs5 hg5)
            obtain ⟨i, rfl⟩ := Int.eq_ofNat_of_zero_le hxi.1
            have hi : i < L3.length := by have := hxi.2; rw [if_neg (by omega)] at this; omega
            clear hs5 hg5 hxi HR4
            go_wp2_with fail
            refine (pick_c (by omega) (L3.length : Int) (by omega) (by omega) _ HR5.out.src).mono ?_; rintro _ w6 ⟨xk, a6, rfl, hxk, ha6, hs6, hg6⟩
            have HR6 := Aside0.mk (HR5.out.pick hs6 hg6)
            obtain ⟨q, rfl⟩ := Int.eq_ofNat_of_zero_le hxk.1
            have hq : q < L3.length := by have := hxk.2; rw [if_neg (by omega)] at this; omega
            clear hs6 hg6 hxk HR5
            obtain ⟨gg, cap, e4, hgb, _⟩ := Kd.R_form HR6.out.row (by omega)
            injection e4 with e4 e5 e6
            subst e4 e6
            clear e5
            obtain ⟨bi, hbi, r0, r1, r2, r3, r4, r5, r6, r7, _⟩ := row_at HR6.out.row hi
            obtain ⟨bq, hbq, _⟩ := row_at HR6.out.row hq
            have HRX := Aside0.mk (Kd.R_alloc HR6.out.row (.cells #[.int .i16 bi.c, .int .u8 bi.m0, .int .u8 bi.m1, .int .u8 bi.m2, .int .i16 bi.v, .int .i16 bi.wd, .int .i16 bi.h, .int .i16 bi.wt] 30))
            obtain ⟨z0, z1, z2, z3, z4, z5, z6, z7, _⟩ := row_of HRX.out hq hbq.out
            have HBX := Aside0.mk (BkAt.box w6 bi 30)
            have HMI := Aside0.mk (mem_of hbi.out)
            have HMQ := Aside0.mk (mem_of hbq.out)
            have HGB := Aside0.mk (Kd.R_lt HR6.out.row gg rfl)
            have i0 : (0 : Int) ≤ (i : Int) := by omega
            have i1 : (i : Int) < (L3.length : Int) := by omega
            have q0 : (0 : Int) ≤ (q : Int) := by omega
            have q1 : (q : Int) < (L3.length : Int) := by omega
            clear hbi hbq
            have hbw := HR6.out.gr.size
            go_wp2_with (first | (refine bk_store (w := w6.alloc (.cells #[.int .i16 bi.c, .int .u8 bi.m0, .int .u8 bi.m1, .int .u8 bi.m2, .int .i16 bi.v, .int .i16 bi.wd, .int .i16 bi.h, .int .i16 bi.wt] 30)) w.heap.size rfl rfl (.tmp 50) (.tmp 49) rfl i _ bq (fun _ => True) rfl (by omega) rfl HRX.out hi (Below.refl _ _) ?_; intro w7 hR7 hB7 hg7; have HR7 := Aside0.mk hR7; have HG7 := Aside0.mk hg7; obtain ⟨k0, k1, k2, k3, k4, k5, k6, k7⟩ := bkAt_grown HBX.out hg7 (fun k hk => by have := HGB.out; cases hk; show w6.heap.size ≠ gg; omega); clear hR7 hB7 hg7) | (refine bk_store (w := w7) w.heap.size rfl rfl (.tmp 54) (.tmp 53) rfl q _ bi (fun _ => True) rfl (by omega) rfl HR7.out hq (Below.refl _ _) ?_; intro w8 hR8 hB8 hg8; have HR8 := Aside0.mk hR8; have HG8 := Aside0.mk hg8; clear hR8 hB8 hg8))
            go_ret
            have h7 := HR6.out.step (balloc (Below.refl _ _) (.cells #[.int .i16 bi.c, .int .u8 bi.m0, .int .u8 bi.m1, .int .u8 bi.m2, .int .i16 bi.v, .int .i16 bi.wd, .int .i16 bi.h, .int .i16 bi.wt] 30))
            have h8 := h7.wrote HR7.out (h7.ok.set HMQ.out) HG7.out
            have h9 := h8.wrote HR8.out (fun b hb => (h7.ok.set (i := i) HMQ.out).set' (i := q) HMI.out h7.ok b hb) HG8.out
            exact ⟨_, _, a6, rfl, by rw [List.length_set, List.length_set]; exact hl11, h9⟩
        · have d0 : decide ((1 : Int) < (L3.length : Int)) = false := decide_eq_false (by omega)
          have d0' : decide (1 < L3.length) = false := decide_eq_false hlen2
          have hl11 : L3.length ≤ 11 := by omega
          clear hl3
          go_wp2_with fail
          go_ret
          exact ⟨_, L3, a3, rfl, hl11, HR3.out⟩
set_option maxHeartbeats 2000000 in
theorem l00From_c (A : Option Addr) (c : Nat) (Cd : List Int) (w : World) (hC : (Kd.int .u8).C w A Cd.length Cd) (hU : ∀ x, x ∈ Cd → 0 ≤ x ∧ x ≤ 255) :
    Calls Tryz.prog 69 #[.slice A Cd.length c] w (fun e w' => e = .returned (.pointer (some ⟨w.heap.size, 0, none⟩)) ∧ Src w w' w.heap.size A c Cd 0 ∧ w'.heap.size = w.heap.size + 1) := by
  have HS := Aside0.mk (show Src w (w.alloc (.cells #[.slice A Cd.length c, .int .i64 0, .int .u64 0] 153)) w.heap.size A c Cd 0 from ⟨balloc (Below.refl _ _) _, Nat.le_refl _, hC, hU, 0, blk_new w _, by omega, by omega⟩)
  clear hC hU
  go_enter Tryz.func69, Tryz.ntmps69
  go_wp2
  go_ret
  exact ⟨rfl, HS.out, by simp⟩
/-- A list of at most eight valid books. -/
def NewL8 (w : World) (v : Value) (w' : World) : Prop := ∃ L : List Bk, kBk.R 30 w' w.heap.size (fun _ => True) v L ∧ VB L ∧ L.length ≤ 8
set_option maxHeartbeats 4000000 in
theorem A2Books_c (A : Option Addr) (c : Nat) (Cd : List Int) (w : World) (hC : (Kd.int .u8).C w A Cd.length Cd) (hU : ∀ x, x ∈ Cd → 0 ≤ x ∧ x ≤ 255) :
    Calls Tryz.prog 47 #[.slice A Cd.length c] w (RetQ w (NewL8 w)) := by
  have hm := Kd.C_max hC
  have HF := Aside0.mk (l00From_c A c Cd w hC hU)
  clear hC hU
  go_enter Tryz.func47, Tryz.ntmps47
  go_wp2_with fail
  refine HF.out.mono ?_; rintro _ w1 ⟨rfl, hs1, hz1⟩
  have HZ1 := Aside0.mk hz1
  have HD := Aside0.mk (l01Drawn_c (w0 := w) (g := w.heap.size) (A := A) (c := c) (Cd := Cd) (at_ := 0) (by omega) w1 hs1)
  clear hs1 hz1
  go_wp2_with fail
  refine HD.out.mono ?_; rintro _ w2 ⟨v, L, a', rfl, hl, hr⟩
  have HR := Aside0.mk hr
  have HB := Aside0.mk hr.src.below
  obtain ⟨A', c', rfl⟩ := Kd.R_slice hr.row
  have HRW := Aside0.mk (show kBk.R 30 w2 w.heap.size (fun _ => True) (.slice A' L.length c') L from Kd.R_lower hr.row (by have := HZ1.out; omega))
  have hcap := (Kd.R_reads' hr.row).2.1
  clear hr
  by_cases h8 : 8 < L.length
  · have HT := Aside0.mk (Kd.R_take HRW.out (m := 8) (by omega))
    have hc8 : (8 : Int) ≤ (c' : Int) := by omega
    have h8' : (8 : Int) < (L.length : Int) := by omega
    go_wp2
    go_ret
    exact ⟨_, rfl, HB.out, L.take 8, HT.out, fun b hb => HR.out.ok b (List.mem_of_mem_take hb), by rw [List.length_take]; omega⟩
  · have h8' : ¬ ((8 : Int) < (L.length : Int)) := by omega
    go_wp2
    go_ret
    exact ⟨_, rfl, HB.out, L, HRW.out, HR.out.ok, by omega⟩
theorem VB.books {L : List Bk} (h : VB L) (hl : L.length ≤ 8) : vBooks L = true ∧ OkL L := by
  refine ⟨?_, fun b hb => (h b hb).2⟩
  unfold vBooks
  rw [Bool.and_eq_true, List.all_eq_true]
  exact ⟨decide_eq_true (by omega), fun b hb => (h b hb).1⟩
theorem lit5_i64 (W : World) : (Kd.int .i64).C (W.alloc (.cells #[.int .i64 150, .int .i64 250, .int .i64 300, .int .i64 400, .int .i64 400] 2)) (some ⟨W.heap.size, 0, none⟩) [150, 250, 300, 400, 400].length [150, 250, 300, 400, 400] := by
  have h : (Kd.int .i64).R 2 (W.alloc (.cells #[.int .i64 150, .int .i64 250, .int .i64 300, .int .i64 400, .int .i64 400] 2)) 0 (fun _ => True) (.slice (some ⟨W.heap.size, 0, none⟩) 5 5) [150, 250, 300, 400, 400] := by
    refine Kd.R_of_own ?_ (fun _ _ => trivial)
    exact ⟨rfl, .inr ⟨W.heap.size, 5, _, rfl, Nat.zero_le _, heap_alloc_new W _, Nat.le_refl _, by decide, rfl, rfl⟩⟩
  exact (Kd.R_reads' h).2.2
theorem i16_keep {w w' : World} {base g : Nat} {v : Value} {L : List Int} (h : (Kd.int .i16).R 27 w base (fun _ => True) v L) (hg : w.grownBy w' (some g)) (hb : g < base) : (Kd.int .i16).R 27 w' base (fun _ => True) v L :=
  Kd.R_mono (Kd.R_grown (Kd.R_tight (kInt_E _) h) hg (fun k hk he => by have := Kd.R_base h k hk.symm; have := Option.some.inj he; omega)) (fun _ _ => trivial)
theorem i16_set {w : World} {base p i : Nat} {v u : Value} {L : List Int} (h : (Kd.int .i16).R 27 w base (fun _ => True) v L) (hne : some p ≠ v.ownBlock) : (Kd.int .i16).R 27 (w.setCell ⟨p, i, none⟩ u) base (fun _ => True) v L :=
  Kd.R_mono (Kd.R_grown (Kd.R_tight (kInt_E _) h) (grown_set w p i u) (fun k hk he => hne (by rw [← hk, he]))) (fun _ _ => trivial)
theorem OneS.app {w0 w W W' : World} {g : Nat} {A : Option Addr} {c : Nat} {Cd : List Int} {t : TypeId} {R P : Nat} {cr cs : Array Value} {at_ : Nat} {q : Option Nat} (h : OneS w0 w g A c Cd t R cr P cs at_ W) (hg : W.grownBy W' q) (h1 : ∀ b, q = some b → w.heap.size ≤ b) (h2 : some P ≠ q) (h3 : some R ≠ q) (hgw : g < w.heap.size) : OneS w0 w g A c Cd t R cr P cs at_ W' :=
  ⟨h.src.grown hg (fun b e => by have := h1 b e; omega), grown_in h.gr hg h1, blk_grown h.r hg h3, blk_grown h.p hg h2, h.gR, h.gP, h.rP, h.wP⟩
theorem cells3 {W : World} {P : Nat} {a b c : Value} {t : TypeId} (hp : W.heap[P]? = some (.cells #[a, b, c] t (0, 0))) :
    (W.cell? ⟨P, 0, none⟩ = some a ∧ W.cell? ⟨P, 1, none⟩ = some b ∧ W.cell? ⟨P, 2, none⟩ = some c) ∧ ∀ i, W.frozen? ⟨P, i, none⟩ = false :=
  ⟨⟨(blk_cell hp 0).trans rfl, (blk_cell hp 1).trans rfl, (blk_cell hp 2).trans rfl⟩, blk_frozen hp⟩
theorem lit5_in {r : Int} (h : r ∈ [150, 250, 300, 400, 400]) : 150 ≤ r ∧ r ≤ 400 := by
  simp only [List.mem_cons, List.not_mem_nil, or_false] at h
  omega
theorem i16_small {r : Int} (h0 : 150 ≤ r) (h1 : r ≤ 400) : IntKind.i16.wrap r = r := by simp only [IntKind.wrap, IntKind.bits, IntKind.signed]; simp; omega
def DrewCs (w0 w : World) (g : Nat) (A : Option Addr) (c : Nat) (Cd : List Int) (e : Ending) (w' : World) : Prop :=
  ∃ (k : Cs) (A' : Option Addr) (c' a' : Nat), e = .returned (k.val A' c') ∧ (Kd.int .i16).R 27 w' w.heap.size (fun _ => True) (.slice A' k.hs.length c') k.hs ∧ vCase k = true ∧ k.ok ∧ Src w0 w' g A c Cd a' ∧ w.grownBy w' (some g)
def HsOk (L : List Int) : Prop := ∀ x, x ∈ L → 150 ≤ x ∧ x ≤ 400
set_option maxHeartbeats 8000000 in
theorem l02Drawn_c {w0 : World} {g : Nat} {A : Option Addr} {c : Nat} {Cd : List Int} {at_ : Nat} (hat : at_ ≤ 1000) (w : World) (hs : Src w0 w g A c Cd at_) :
    Calls Tryz.prog 114 #[.pointer (some ⟨g, 0, none⟩)] w (DrewCs w0 w g A c Cd) := by
  have hgl := hs.lt
  obtain ⟨zb, hzb⟩ : ∃ z : Array Value, #[.int .i16 0, .int .i32 0, .slice none 0 0] = z := ⟨_, rfl⟩
  have HZB := Aside0.mk hzb
  have HS0 := Aside0.mk (fun W (e : w.alloc (.cells zb 74) = W) => (show Src w0 W g A c Cd at_ ∧ W.heap[w.heap.size]? = some (.cells zb 74 (0, 0)) ∧ w.grownBy W (some g) ∧ W.heap.size = w.heap.size + 1 from by subst e; exact ⟨hs.step (balloc (Below.refl _ _) _), blk_new w _, grown_of_below (balloc (Below.refl w.heap.size w) _) (some g), by simp⟩))
  clear hs
  go_enter Tryz.func114, Tryz.ntmps114
  go_wp2_with fail
  clear hzb
  generalize hW1 : w.alloc (.cells zb 74) = W1
  obtain ⟨hs1, hr1, hg1, hz1⟩ := HS0.out W1 hW1
  clear hW1 HS0
  refine (pick_c (by omega) 120 (by omega) (by omega) _ hs1).mono ?_; rintro _ w2 ⟨x1, a1, rfl, hx1, ha1, hs2, hg2⟩
  have HR2 := Aside0.mk (blk_grown hr1 hg2 (fun e => by have := Option.some.inj e; omega))
  have HG2 := Aside0.mk (World.grownBy.trans hg1 hg2)
  have hz2 := hg2.size
  have HS2 := Aside0.mk hs2
  obtain ⟨p0, p1⟩ := hx1
  have hw1 : IntKind.i64.wrap (60 + x1) = 60 + x1 := by rw [IntKind.wrap_i64]; omega
  have hw2 : IntKind.i16.wrap (60 + x1) = 60 + x1 := by simp only [IntKind.wrap, IntKind.bits, IntKind.signed]; simp; omega
  clear hs1 hr1 hg1 hs2 hg2
  go_wp2_with fail
  refine (pick_c (by omega) 9000 (by omega) (by omega) _ HS2.out).mono ?_; rintro _ w3 ⟨x2, a2, rfl, hx2, ha2, hs3, hg3⟩
  have hr3 := blk_grown HR2.out hg3 (fun e => by have := Option.some.inj e; omega)
  have hG3 := World.grownBy.trans HG2.out hg3
  have hz3 := hg3.size
  obtain ⟨q0, q1⟩ := hx2
  have hw3 : IntKind.i64.wrap (500 + x2) = 500 + x2 := by rw [IntKind.wrap_i64]; omega
  have hw4 : IntKind.i32.wrap (500 + x2) = 500 + x2 := by rw [IntKind.wrap_i32]; omega
  have HO3 := Aside0.mk (show OneS w0 w g A c Cd 74 w.heap.size zb w3.heap.size #[.int .i16 (60 + x1), .int .i32 (500 + x2), .slice none 0 0] a2 (w3.alloc (.cells #[.int .i16 (60 + x1), .int .i32 (500 + x2), .slice none 0 0] 74)) from
    ⟨hs3.step (balloc (Below.refl _ _) _), grown_trans' hG3 (balloc (Below.refl _ _) _), blk_alloc hr3 _, blk_new w3 _, by omega, by omega, by omega, Nat.le_refl _⟩)
  clear hs3 hg3 hr3 hG3 HR2 HG2 HS2
  go_wp2_with fail
  generalize hP : w3.heap.size = P at HO3 ⊢
  generalize World.alloc w3 _ = w4 at HO3 ⊢
  clear hP hz1 hz2 hz3 hw1 hw2 hw3 hw4
  refine (pick_c (by omega) 5 (by omega) (by omega) _ HO3.out.src).mono ?_; rintro _ w5 ⟨x3, a3, rfl, hx3, ha3, hs5, hg5⟩
  have HO5 := Aside0.mk (HO3.out.pick hs5 hg5)
  obtain ⟨k, rfl⟩ := Int.eq_ofNat_of_zero_le hx3.1
  have hk5 : k ≤ 4 := by have := hx3.2; simp at this; omega
  have hw1 : IntKind.i64.wrap (1 + (k : Int)) = 1 + (k : Int) := by rw [IntKind.wrap_i64]; omega
  clear hs5 hg5 hx3 HO3
  go_wp2_with fail
  go_loopg [4] (k + 1) (fun gk v4 wr => ∃ (L : List Int) (vs : Value) (a5 : Nat), v4 = .int .i64 gk ∧ Aside0 (L.length + gk = k + 1 ∧ a5 + 2 * gk ≤ 1100 ∧ HsOk L) ∧ Aside0 (OneS w0 w g A c Cd 74 w.heap.size zb P #[.int .i16 (60 + x1), .int .i32 (500 + x2), vs] a5 wr) ∧ Aside0 ((Kd.int .i16).R 27 wr w.heap.size (fun _ => True) vs L))
  case atStart => exact ⟨[], _, a3, by first | go_num | (congr 1; omega), ⟨by simp, by omega, fun x hx => by cases hx⟩, HO5, ⟨Kd.R_nil _ _ _ _ _⟩⟩
  case round =>
    clear HO5
    obtain ⟨L, vs, a5, rfl, hlen, HO, HR⟩ := hrel
    have hl1 := hlen.out.1
    have hl2 := hlen.out.2.1
    by_cases hk : 0 < gk
    · have hw2 : IntKind.i64.wrap ((gk : Int) - 1) = (gk : Int) - 1 := by rw [IntKind.wrap_i64]; omega
      have HLL := Aside0.mk hl1
      have hL5 : L.length ≤ 5 := by omega
      obtain ⟨⟨c0, c1, c2⟩, fz⟩ := cells3 HO.out.p
      have HYB := Aside0.mk (show ∀ w' : World, w'.heap[P]? = some (.cells #[.int .i16 (60 + x1), .int .i32 (500 + x2), vs] 74 (0, 0)) → w'.cell? ⟨P, 2, none⟩ = some vs ∧ w'.frozen? ⟨P, 2, none⟩ = false ∧ w'.heap[P]? = some (.cells #[.int .i16 (60 + x1), .int .i32 (500 + x2), vs] 74 (0, 0)) from fun w' h => ⟨(cells3 h).1.2.2, (cells3 h).2 2, h⟩)
      have HPB := Aside0.mk (blk_below HO.out.p (bdrew (Below.refl _ _)))
      have hPg : ∀ {q : Option Nat}, q = some g → some P ≠ q := fun e he => by have := HO.out.gP; rw [e] at he; have := Option.some.inj he; omega
      have HPNE := Aside0.mk (Kd.R_ne HR.out HO.out.p (by decide))
      clear hl1 c0 c1 c2 fz
      go_wp2_with fail
      have c2d : (wr.drew).cell? ⟨P, 2, none⟩ = some vs := (HYB.out _ HPB.out).1
      have c2a : ((wr.alloc (.cells #[.int .i64 150, .int .i64 250, .int .i64 300, .int .i64 400, .int .i64 400] 2)).drew).cell? ⟨P, 2, none⟩ = some vs := (HYB.out _ (blk_below (blk_alloc HO.out.p _) (bdrew (Below.refl _ _)))).1
      go_region_law (first | (refine Kd.R_append_step (Kd.int .i16) (w0 := wq1) w.heap.size (by rfl) (.tmp 22) (.tmp 27) 72 27 (.int .i16 0) 2 rfl Tryz.underlying72 infoI16 rfl (by decide) (by decide) vs L r [.int .i16 r] (fun _ => True) (fun _ => False) rfl rfl rfl (fun _ h => h.elim) (fun _ _ => trivial) (i16_keep (Kd.R_drew (Kd.R_alloc HR.out _)) hq1 hgl) (Below.refl _ _) (Nat.le_trans (HO.out.gr.size) (Nat.le_trans (by simp) hq1.size)) (by omega) ?_; intro v9 w9 hR9 _ hg9 _; obtain ⟨A9, c9, rfl⟩ := Kd.R_slice hR9; have HS9 := Aside0.mk (HYB.out _ (blk_grown HPQ.out hg9 HPNE.out)); have k0 := HS9.out.1; have k1 := HS9.out.2.1) | (go_simp; go_at_call 163; refine (among_c (by omega) ⟨wr.heap.size, 0, none⟩ 5 [150, 250, 300, 400, 400] (by decide) (by decide) (by have := HO.out.src.lt; show wr.heap.size ≠ g; omega) _ (HO.out.src.step (bdrew (balloc (Below.refl _ _) _))) (Kd.C_drew (lit5_i64 _))).mono ?_; rintro _ wq1 ⟨r, a6, rfl, hr, ha6, hsq, hq1⟩; have HPQ := Aside0.mk (blk_grown (blk_below (blk_alloc HO.out.p _) (bdrew (Below.refl _ _))) hq1 (hPg rfl)); have hrb := lit5_in hr; have hwr : IntKind.i16.wrap r = r := i16_small hrb.1 hrb.2; have c2q := (HYB.out _ HPQ.out).1; have c2r := (HYB.out _ (blk_alloc HPQ.out (.cells #[.int .i16 r] 27))).1))
      all_goals
        (have hl9 : (L ++ [r]).length = L.length + 1 := by simp
         rw [hl9] at hR9
         have HR9 := Aside0.mk (i16_set (p := P) (i := 2) (u := .slice A9 (L.length + 1) c9) hR9 (Kd.R_ne hR9 HS9.out.2.2 (by decide)))
         have HO9 := Aside0.mk ((((HO.out.step (bdrew (balloc (Below.refl _ _) _))).pick hsq hq1).app hg9 (fun b e => Kd.R_base HR.out b e) HPNE.out (Kd.R_ne HR.out HO.out.r (by decide)) hgl).put 2 (.slice A9 (L.length + 1) c9) rfl)
         have HHS := Aside0.mk (show HsOk (L ++ [r]) from fun x hx => by
           rcases List.mem_append.1 hx with hx | hx
           · exact hlen.out.2.2 x hx
           · rw [List.mem_singleton.1 hx]; exact hrb)
         clear hl9 hR9 hg9 hq1 hsq HS9 HPQ HPB HYB HPNE k0 k1 c2d c2a c2q c2r
         go_wp2
         go_roundg (gk - 1)
         case measure => omega
         case rel => exact ⟨L ++ [r], _, a6, by first | go_num | (congr 1; omega), ⟨by have := HLL.out; rw [List.length_append, List.length_singleton]; omega, by omega, HHS.out⟩, HO9, HR9⟩)
    · have hk0 : gk = 0 := by omega
      subst hk0
      obtain ⟨A', c', rfl⟩ := Kd.R_slice HR.out
      obtain ⟨⟨c0, c1, c2⟩, fz⟩ := cells3 HO.out.p
      have hrr := HO.out.r
      rw [← HZB.out] at hrr
      obtain ⟨⟨e0, e1, e2⟩, ez⟩ := cells3 hrr
      have HO9 := Aside0.mk (((HO.out.putR 0 (.int .i16 (60 + x1)) rfl).putR 1 (.int .i32 (500 + x2)) rfl).putR 2 (.slice A' L.length c') rfl)
      have hRn := Kd.R_ne HR.out hrr (by decide)
      have HR9 := Aside0.mk (i16_set (p := w.heap.size) (i := 2) (u := .slice A' L.length c') (i16_set (p := w.heap.size) (i := 1) (u := .int .i32 (500 + x2)) (i16_set (p := w.heap.size) (i := 0) (u := .int .i16 (60 + x1)) HR.out hRn) hRn) hRn)
      have hlk : L.length = k + 1 := by omega
      have HLK := Aside0.mk hlk
      clear hRn hrr hlk hl1
      go_wp2_with fail
      clear c0 c1 c2 fz e0 e1 e2 ez
      generalize World.setCell (World.setCell (World.setCell _ _ _) _ _) _ _ = w9 at HO9 HR9 ⊢
      have hr9 := HO9.out.r
      rw [← HZB.out] at hr9
      obtain ⟨⟨e0, e1, e2⟩, ez⟩ := cells3 hr9
      have hvc : vCase ⟨60 + x1, 500 + x2, L⟩ = true := by
        unfold vCase
        simp only [Bool.and_eq_true, inR_iff, List.all_eq_true]
        have := HLK.out
        refine ⟨by simp at p1; omega, by simp at q1; omega, by omega, fun x hx => ?_⟩
        have := hlen.out.2.2 x hx
        omega
      have hok : (⟨60 + x1, 500 + x2, L⟩ : Cs).ok := by
        refine ⟨by unfold I16; simp at p1; simp only; omega, by simp at q1; simp only; omega, fun x hx => ?_⟩
        have := hlen.out.2.2 x hx
        unfold I16
        omega
      exact bodyPost_ret (v := (⟨60 + x1, 500 + x2, L⟩ : Cs).val A' c') (by simp [results, Tryz.results114, go_sem, e0, e1, e2, Cs.val]) rfl ⟨_, A', c', a5, rfl, HR9.out, hvc, hok, HO9.out.src, HO9.out.gr⟩
/-- A valid case. -/
def NewCase (w : World) (v : Value) (w' : World) : Prop := ∃ (k : Cs) (A' : Option Addr) (c' : Nat), v = k.val A' c' ∧ (Kd.int .i16).R 27 w' w.heap.size (fun _ => True) (.slice A' k.hs.length c') k.hs ∧ vCase k = true ∧ k.ok
set_option maxHeartbeats 4000000 in
theorem A2Case_c (A : Option Addr) (c : Nat) (Cd : List Int) (w : World) (hC : (Kd.int .u8).C w A Cd.length Cd) (hU : ∀ x, x ∈ Cd → 0 ≤ x ∧ x ≤ 255) :
    Calls Tryz.prog 46 #[.slice A Cd.length c] w (RetQ w (NewCase w)) := by
  have hm := Kd.C_max hC
  obtain ⟨zb, hzb⟩ : ∃ z : Array Value, #[.int .i16 0, .int .i32 0, .slice none 0 0] = z := ⟨_, rfl⟩
  have HZB := Aside0.mk hzb
  have HS0 := Aside0.mk (fun W (e : w.alloc (.cells zb 74) = W) => (show (Kd.int .u8).C W A Cd.length Cd ∧ W.heap[w.heap.size]? = some (.cells zb 74 (0, 0)) ∧ Below w.heap.size w W ∧ W.heap.size = w.heap.size + 1 from by subst e; exact ⟨Kd.C_alloc hC _, blk_new w _, balloc (Below.refl w.heap.size w) _, by simp⟩))
  have HU := Aside0.mk hU
  clear hC hU
  go_enter Tryz.func46, Tryz.ntmps46
  go_wp2_with fail
  clear hzb
  generalize hW1 : w.alloc (.cells zb 74) = W1
  obtain ⟨hc1, hr1, hb1, hz1⟩ := HS0.out W1 hW1
  clear hW1 HS0
  have HB1 := Aside0.mk hb1
  have HZ1 := Aside0.mk hz1
  refine (l00From_c A c Cd W1 hc1 HU.out).mono ?_; rintro _ w2 ⟨rfl, hs2, hz2⟩
  have HR2 := Aside0.mk ((hs2.below.block w.heap.size (by have := HZ1.out; omega)).trans hr1)
  have HD := Aside0.mk (l02Drawn_c (w0 := W1) (g := W1.heap.size) (A := A) (c := c) (Cd := Cd) (at_ := 0) (by omega) w2 hs2)
  have HS2 := Aside0.mk hs2.below
  have HZ2 := Aside0.mk hz2
  clear hc1 hr1 hb1 hz1 hs2 hz2
  go_wp2_with fail
  refine HD.out.mono ?_; rintro _ w3 ⟨k, A', c', a', rfl, hrow, hv, hok, hs3, hg3⟩
  have hr3 := blk_grown HR2.out hg3 (fun e => by have := HZ1.out; have := Option.some.inj e; omega)
  rw [← HZB.out] at hr3
  obtain ⟨⟨e0, e1, e2⟩, ez⟩ := cells3 hr3
  have HP9 := Aside0.mk (blk_put (blk_put (blk_put hr3 0 (.int .i16 k.wd) rfl) 1 (.int .i32 k.ld) rfl) 2 (.slice A' k.hs.length c') rfl)
  have hRn := Kd.R_ne hrow hr3 (by decide)
  have HR9 := Aside0.mk (i16_set (p := w.heap.size) (i := 2) (u := .slice A' k.hs.length c') (i16_set (p := w.heap.size) (i := 1) (u := .int .i32 k.ld) (i16_set (p := w.heap.size) (i := 0) (u := .int .i16 k.wd) hrow hRn) hRn) hRn)
  have HB3 := Aside0.mk (show Below w.heap.size w w3 from HB1.out.trans (hs3.below.mono (by have := HZ1.out; omega)))
  have HB9 := Aside0.mk (Below.setCell (Below.setCell (Below.setCell HB3.out (p := ⟨w.heap.size, 0, none⟩) (Nat.le_refl _) (.int .i16 k.wd)) (p := ⟨w.heap.size, 1, none⟩) (Nat.le_refl _) (.int .i32 k.ld)) (p := ⟨w.heap.size, 2, none⟩) (Nat.le_refl _) (.slice A' k.hs.length c'))
  have HV := Aside0.mk (And.intro hv hok)
  have HL2 := Aside0.mk (show w.heap.size ≤ w2.heap.size by have := HZ1.out; have := HZ2.out; omega)
  simp only [Cs.val]
  clear hr3 hRn hrow hv hok hs3 hg3
  go_wp2_with fail
  clear e0 e1 e2 ez
  generalize World.setCell (World.setCell (World.setCell _ _ _) _ _) _ _ = w9 at HP9 HR9 HB9 ⊢
  obtain ⟨⟨e0, e1, e2⟩, ez⟩ := cells3 HP9.out
  exact bodyPost_ret (v := k.val A' c') (by simp [results, Tryz.results46, go_sem, e0, e1, e2, Cs.val]) rfl ⟨_, rfl, HB9.out, k, A', c', rfl, Kd.R_lower HR9.out HL2.out, HV.out.1, HV.out.2⟩
end Go.Proofs.YtgibcacciedobaaGreatDoor
end
section
/- Layouts in plain Lean: what the law FnFilled asks. -/
namespace Go.Proofs.YtgibcacciedobaaGreatDoor
open Go.RowKit Go.Proofs.YtgibcacciedobaaGreatDoorW.PrintWords Go.Proofs.YtgibcacciedobaaGreatDoorW.PrintMore
set_option linter.unusedVariables false
set_option linter.unusedSimpArgs false
set_option maxRecDepth 100000

theorem badGo_all {k : Cs} {L : List Bk} {E : List Int} (h : LayP k L E) : ∀ g s, s + g = k.hs.length → badGo k L E g s (bef E s) = -1
  | 0, s, e => by
    have hn := h.n
    have hl := h.last
    rw [badGo, if_pos]
    rw [show s = E.length by omega]
    exact ⟨hl, by omega⟩
  | g + 1, s, e => by
    have hn := h.n
    have h1 := h.s s (by omega)
    rw [badGo, if_pos ⟨by omega, h1.1, h1.2⟩]
    exact badGo_all h g (s + 1) (by omega)
theorem layC_of {k : Cs} {L : List Bk} {E : List Int} (h : LayP k L E) : layC k L E = 0 := by
  rw [lay_0 (eCL_0 h.case h.list)]
  have := badGo_all h k.hs.length 0 (by omega)
  rw [if_neg]
  unfold badL
  rw [show badGo k L E k.hs.length 0 0 = badGo k L E k.hs.length 0 (bef E 0) from rfl, this]
  decide
/-- A shelf that is filled. -/
theorem flEnd_fit {k : Cs} {s : Nat} {L : List Bk} {a : Nat} : ∀ (g t : Nat), fitL k s (subL L (a : Int) (t : Int)) = true → fitL k s (subL L (a : Int) ((flEnd k s L a g t : Nat) : Int)) = true
  | 0, t, h => h
  | g + 1, t, h => by
    rw [flEnd]
    split
    · rename_i h1
      exact flEnd_fit g (t + 1) (by have := h1.2; rw [show ((t + 1 : Nat) : Int) = (t : Int) + 1 by omega]; exact this)
    · exact h
theorem fit_nil {k : Cs} (hk : CsBd k) (s a : Nat) (L : List Bk) : fitL k s (subL L (a : Int) (a : Int)) = true := by
  have e : subL L (a : Int) (a : Int) = [] := by unfold subL; rw [List.drop_eq_nil_of_le (by rw [List.length_take]; omega)]
  rw [e]
  have := hk.h s
  have h1 := hk.wd
  have h2 := hk.ld
  have e0 : totL [] = ⟨0, 0, 0⟩ := rfl
  unfold fitL fitT
  rw [e0]
  simp only [Bool.and_eq_true, decide_eq_true_eq]
  exact ⟨by omega, by omega, by omega⟩
theorem flEnds_at {k : Cs} {L : List Bk} {n j : Nat} (hj : j < n) : (flEnds k L n).getD j 0 = (flAt k L (j + 1) : Int) := by
  unfold flEnds
  rw [List.getD_eq_getElem?_getD, List.getElem?_map, List.getElem?_range hj]
  rfl
theorem flEnds_bef {k : Cs} {L : List Bk} {n j : Nat} (hj : j ≤ n) : bef (flEnds k L n) j = (flAt k L j : Int) := by
  unfold bef
  split
  · rename_i h; subst h; rfl
  · rw [flEnds_at (by omega), show j - 1 + 1 = j by omega]
theorem fl_lay {k : Cs} {L : List Bk} (hv : vCase k = true) (hb : vBooks L = true) (h : ¬ flAt k L k.hs.length < L.length) : LayP k L (flEnds k L k.hs.length) := by
  have hl := flEnds_len k L k.hs.length
  refine ⟨hl, fun j hj => ?_, ?_, hv, hb⟩
  · rw [hl] at hj
    rw [flEnds_at hj, flEnds_bef (by omega)]
    have h1 := flEnd_le k j L (flAt k L j) (L.length - flAt k L j) (flAt k L j)
    have h2 := flAt_le k L (j + 1)
    exact ⟨⟨by show _ ≤ ((flEnd k j L (flAt k L j) (L.length - flAt k L j) (flAt k L j) : Nat) : Int); omega, by omega⟩, flEnd_fit _ _ (fit_nil (vCase_bd hv) j _ L)⟩
  · have := flAt_le k L k.hs.length
    rw [hl, flEnds_bef (Nat.le_refl _)]
    omega
theorem a2Long_c (A A' : Option Addr) (n n' c c' : Nat) (hn : n ≤ 9223372036854775807) (hn' : n' ≤ 9223372036854775807) (w : World) :
    Calls Tryz.prog 45 #[.slice A n c, .slice A' n' c'] w (RetS w (.bool (decide (3000 < n ∨ 3000 < n')))) := by
  by_cases h1 : 3000 < n
  · rw [decide_eq_true (Or.inl h1)]
    have h1' : (3000 : Int) < (n : Int) := by omega
    go_enter Tryz.func45, Tryz.ntmps45
    go_wp2
    go_ret
    exact ⟨rfl, rfl⟩
  · by_cases h2 : 3000 < n'
    · rw [decide_eq_true (Or.inr h2)]
      have h1' : ¬ ((3000 : Int) < (n : Int)) := by omega
      have h2' : (3000 : Int) < (n' : Int) := by omega
      go_enter Tryz.func45, Tryz.ntmps45
      go_wp2
      go_ret
      exact ⟨rfl, rfl⟩
    · rw [decide_eq_false (by omega)]
      have h1' : ¬ ((3000 : Int) < (n : Int)) := by omega
      have h2' : ¬ ((3000 : Int) < (n' : Int)) := by omega
      go_enter Tryz.func45, Tryz.ntmps45
      go_wp2
      go_ret
      exact ⟨rfl, rfl⟩
end Go.Proofs.YtgibcacciedobaaGreatDoor
end
section
/- Shelves that are filled, in plain Lean: what the law asks of each. -/
namespace Go.Proofs.YtgibcacciedobaaGreatDoor
open Go.RowKit Go.Proofs.YtgibcacciedobaaGreatDoorW.PrintWords Go.Proofs.YtgibcacciedobaaGreatDoorW.PrintMore
set_option linter.unusedVariables false
set_option linter.unusedSimpArgs false
set_option maxRecDepth 100000

section
variable {k : Cs} {L : List Bk}
theorem flEnd_max {s : Nat} {a : Nat} : ∀ (g t : Nat), L.length ≤ t + g → flEnd k s L a g t < L.length → fitL k s (subL L (a : Int) (((flEnd k s L a g t : Nat) : Int) + 1)) = false
  | 0, t, h, h2 => by rw [flEnd] at h2; omega
  | g + 1, t, h, h2 => by
    rw [flEnd] at h2 ⊢
    split
    · rename_i hc
      rw [if_pos hc] at h2
      exact flEnd_max g (t + 1) (by omega) h2
    · rename_i hc
      rw [if_neg hc] at h2
      cases hf : fitL k s (subL L (a : Int) ((t : Int) + 1))
      · rfl
      · exact absurd ⟨h2, hf⟩ hc
/-- No further book fits. -/
theorem fl_over {s : Nat} (hs : s < k.hs.length) (h : (flEnds k L k.hs.length).getD s 0 < L.length) : fitL k s (subL L (bef (flEnds k L k.hs.length) s) ((flEnds k L k.hs.length).getD s 0 + 1)) = false := by
  rw [flEnds_at hs] at h ⊢
  rw [flEnds_bef (by omega)]
  have := flAt_le k L s
  exact flEnd_max (L.length - flAt k L s) (flAt k L s) (by omega) (by change ((flEnd k s L (flAt k L s) (L.length - flAt k L s) (flAt k L s) : Nat) : Int) < _ at h; omega)
end
theorem ss_pos {k : Cs} {L : List Bk} {E : List Int} {s : Nat} (h0 : 0 ≤ bef E s) (h : bef E s < E.getD s 0) (h2 : E.getD s 0 ≤ L.length) : ssL k L E false s = frL k (shB L E s) * frL k (shB L E s) ∧ ssL k L E true s = 1 := by
  have hl : (shB L E s).length = (E.getD s 0).toNat - (bef E s).toNat := subL_len h2
  unfold ssL sqL usL
  rw [if_neg (by decide), if_pos rfl, if_neg (by omega), if_neg (by omega)]
  exact ⟨rfl, rfl⟩
theorem ss_nil {k : Cs} {L : List Bk} {E : List Int} {s : Nat} (h : ¬ bef E s < E.getD s 0) (h2 : E.getD s 0 ≤ L.length) : ssL k L E false s = 0 ∧ ssL k L E true s = 0 := by
  have hl : (shB L E s).length = (E.getD s 0).toNat - (bef E s).toNat := subL_len h2
  unfold ssL sqL usL
  rw [if_neg (by decide), if_pos rfl, if_pos (by omega), if_pos (by omega)]
  exact ⟨rfl, rfl⟩
theorem frN_at {k : Cs} {L : List Bk} {E : List Int} {n s : Nat} (h : s < n) : (frN k L E n)[s]? = some (frL k (shB L E s)) := by
  unfold frN shL
  rw [List.map_map, List.getElem?_map, List.getElem?_range h]
  rfl
theorem frL_wd (k : Cs) (L : List Bk) (E : List Int) (s : Nat) : frL k (shB L E s) = k.wd - wdS L (bef E s) (E.getD s 0) := rfl
theorem sumN_succ (f : Nat → Int) (n : Nat) : sumN f (n + 1) = sumN f n + f n := rfl
end Go.Proofs.YtgibcacciedobaaGreatDoor
end
section
/- Texts in plain Lean: digits, pieces between separators, numbers read. -/
namespace Go.Proofs.YtgibcacciedobaaGreatDoor
open Go.RowKit Go.Proofs.YtgibcacciedobaaGreatDoorW.PrintWords Go.Proofs.YtgibcacciedobaaGreatDoorW.PrintMore
set_option linter.unusedVariables false
set_option linter.unusedSimpArgs false
set_option maxRecDepth 100000

open Go.Lib (decDigits itoa atoi atoiAll decFrom decNat digitVal NumEnd)
abbrev Bs := List UInt8
/-- The digits of a number that is at least 0. -/
def dg (n : Int) : Bs := decDigits n.toNat
def bS (l : Bs) : ByteArray := ⟨l.toArray⟩
theorem bS_toList (l : Bs) : (bS l).data.toList = l := by unfold bS; simp
theorem bS_of (s : ByteArray) : bS s.data.toList = s := by unfold bS; cases s; simp
theorem bS_inj {a b : Bs} (h : bS a = bS b) : a = b := by have := congrArg (fun s : ByteArray => s.data.toList) h; simpa [bS_toList] using this
theorem bS_append (a b : Bs) : bS a ++ bS b = bS (a ++ b) := by
  apply ByteArray.ext
  simp [bS, ByteArray.data_append]
theorem itoa_dg {n : Int} (h : 0 ≤ n) : itoa n = dg n := by unfold itoa dg; rw [if_neg (by omega)]
/-- Each sign of a number's digits is a digit. -/
theorem dd_digit : ∀ (u : Nat) (x : UInt8), x ∈ decDigits u → 48 ≤ x.toNat ∧ x.toNat ≤ 57 := by
  intro u
  induction u using Nat.strongRecOn with
  | ind u ih =>
    intro x hx
    rw [decDigits] at hx
    split at hx
    · rename_i h
      rw [List.mem_singleton] at hx
      subst hx
      rw [UInt8.toNat_ofNat']
      omega
    · rename_i h
      rcases List.mem_append.1 hx with h1 | h1
      · exact ih (u / 10) (by omega) x h1
      · rw [List.mem_singleton] at h1
        subst h1
        rw [UInt8.toNat_ofNat']
        omega
theorem dg_digit {n : Int} {x : UInt8} (h : x ∈ dg n) : 48 ≤ x.toNat ∧ x.toNat ≤ 57 := dd_digit _ _ h
theorem dd_ne (u : Nat) : decDigits u ≠ [] := by
  rw [decDigits]
  split
  · exact List.cons_ne_nil _ _
  · exact List.append_ne_nil_of_right_ne_nil _ (List.cons_ne_nil _ _)
theorem decFrom_app (l : Bs) : ∀ (a : Nat) (x : UInt8), decFrom a (l ++ [x]) = (decFrom a l).bind fun n => (digitVal x).map fun d => n * 10 + d := by
  induction l with
  | nil =>
    intro a x
    simp only [List.nil_append, decFrom, Option.bind_some]
    cases digitVal x <;> rfl
  | cons y l ih =>
    intro a x
    rw [List.cons_append, decFrom, decFrom]
    cases h : digitVal y with
    | none => rfl
    | some d => exact ih _ x
theorem digitVal_dig (d : Nat) (h : d < 10) : digitVal (UInt8.ofNat (48 + d)) = some d := by
  unfold digitVal
  rw [UInt8.toNat_ofNat']
  rw [if_pos (by omega)]
  congr 1
  omega
/-- Digits are read back. -/
theorem dd_read : ∀ u : Nat, decFrom 0 (decDigits u) = some u := by
  intro u
  induction u using Nat.strongRecOn with
  | ind u ih =>
    rw [decDigits]
    split
    · rename_i h
      rw [decFrom, digitVal_dig u h]
      simp [decFrom]
    · rename_i h
      rw [decFrom_app, ih (u / 10) (by omega), Option.bind_some, digitVal_dig _ (by omega)]
      simp only [Option.map_some, Option.some.injEq]
      omega
/-- The first digit of a number above 9 is not 0. -/
theorem dd_len_le : ∀ (k u : Nat), u < 10 ^ (k + 1) → (decDigits u).length ≤ k + 1 := by
  intro k
  induction k with
  | zero =>
    intro u h
    rw [decDigits, dif_pos (by simpa using h)]
    simp
  | succ k ih =>
    intro u h
    rw [decDigits]
    split
    · simp
    · have := ih (u / 10) (by rw [Nat.pow_succ] at h; omega)
      simp only [List.length_append, List.length_cons, List.length_nil]
      omega
theorem head_app {a b : Bs} (h : a ≠ []) : (a ++ b).head? = a.head? := by
  cases a with
  | nil => exact absurd rfl h
  | cons x r => rfl
theorem dd_head : ∀ u : Nat, (decDigits u).head? = some 48 → u = 0 := by
  intro u
  induction u using Nat.strongRecOn with
  | ind u ih =>
    intro h
    rw [decDigits] at h
    split at h
    · rename_i hu
      simp only [List.head?_cons, Option.some.injEq] at h
      have := congrArg UInt8.toNat h
      rw [UInt8.toNat_ofNat'] at this
      simp at this
      omega
    · rename_i hu
      rw [head_app (dd_ne _)] at h
      have := ih (u / 10) (by omega) h
      omega
/-- What is read is written back, if it bears no 0 ahead. -/
theorem dd_back : ∀ (l : Bs) (n : Nat), l ≠ [] → decFrom 0 l = some n → (l.head? = some 48 → l.length ≤ 1) → decDigits n = l := by
  intro l
  induction hn : l.length using Nat.strongRecOn generalizing l with
  | ind k ih =>
    intro n h0 hr hz
    rcases List.eq_nil_or_concat l with rfl | ⟨m, x, rfl⟩
    · exact absurd rfl h0
    · rw [List.concat_eq_append] at hn hr hz ⊢
      rw [decFrom_app] at hr
      obtain ⟨a, ha, hr⟩ := Option.bind_eq_some_iff.1 hr
      obtain ⟨d, hd, rfl⟩ := Option.map_eq_some_iff.1 hr
      obtain ⟨d1, d2, d3⟩ := Go.Lib.digitVal_eq hd
      have hx : UInt8.ofNat (48 + d) = x := by
        apply UInt8.toNat_inj.1
        rw [UInt8.toNat_ofNat']
        omega
      by_cases hm : m = []
      · subst hm
        simp only [decFrom, Option.some.injEq] at ha
        subst ha
        rw [decDigits, dif_pos (by omega), Nat.zero_mul, Nat.zero_add, hx]
        rfl
      · have hl : m.length < k := by rw [← hn]; simp
        have hm1 : 1 ≤ m.length := List.length_pos_iff.2 hm
        have hzm : m.head? = some 48 → m.length ≤ 1 := by
          intro e
          have := hz (by rw [head_app hm]; exact e)
          rw [← hn] at this
          simp only [List.length_append, List.length_singleton] at this
          omega
        have hb := ih m.length hl m rfl a hm ha hzm
        have ha0 : a ≠ 0 := by
          rintro rfl
          have h48 : m.head? = some 48 := by rw [← hb, decDigits, dif_pos (by omega)]; rfl
          have := hz (by rw [head_app hm]; exact h48)
          rw [← hn] at this
          simp only [List.length_append, List.length_singleton] at this
          omega
        rw [decDigits, dif_neg (by omega), show (a * 10 + d) / 10 = a by omega, show (a * 10 + d) % 10 = d by omega, hb, hx]
/-- strconv's reading of digits. -/
theorem atoi_dg {n : Int} (h0 : 0 ≤ n) (h1 : n < 1000000000000000000) : Go.Lib.parseIntB 64 (dg n) = .ok n := by
  rw [Go.Lib.parseIntB_64, Go.Lib.atoiAll_short _ (by have := dd_len_le 17 n.toNat (by omega); unfold dg; omega)]
  have hr := dd_read n.toNat
  have hne := dd_ne n.toNat
  have hd := dd_digit n.toNat
  unfold dg
  generalize decDigits n.toNat = l at hr hne hd ⊢
  cases l with
  | nil => exact absurd rfl hne
  | cons x r =>
    have hx := hd x (by simp)
    have h45 : (x == 45) = false := by
      apply beq_eq_false_iff_ne.2; rintro rfl; simp at hx
    have h43 : (x == 43) = false := by
      apply beq_eq_false_iff_ne.2; rintro rfl; simp at hx
    have hnat : decNat (x :: r) = some n.toNat := by
      unfold decNat
      rw [if_neg (by simp)]
      exact hr
    have e : atoi (x :: r) = some n := by
      show (if x == 45 then (decNat r).map fun (m : Nat) => -(m : Int) else if x == 43 then (decNat r).map fun (m : Nat) => (m : Int) else (decNat (x :: r)).map fun (m : Nat) => (m : Int)) = some n
      rw [h45, h43, hnat]
      simp only [Bool.false_eq_true, if_false, Option.map_some, Option.some.injEq]
      omega
    rw [e]
    rfl
/-- The reference's reading: at most nine digits, none of them a 0 ahead of others. -/
def numL (l : Bs) : Option Nat := if l = [] ∨ 9 < l.length ∨ (l.head? = some 48 ∧ 1 < l.length) then none else decFrom 0 l
theorem numL_dg {n : Int} (h0 : 0 ≤ n) (h1 : n < 1000000000) : numL (dg n) = some n.toNat := by
  unfold numL
  rw [if_neg]
  · exact dd_read _
  · rintro (h | h | ⟨h, h2⟩)
    · exact dd_ne _ h
    · have := dd_len_le 8 n.toNat (by omega)
      unfold dg at h
      omega
    · have := dd_head _ h
      unfold dg at h2
      rw [this, decDigits, dif_pos (by omega)] at h2
      exact absurd h2 (by simp)
theorem numL_back {l : Bs} {n : Nat} (h : numL l = some n) : dg n = l := by
  unfold numL at h
  split at h
  · cases h
  · rename_i hc
    exact dd_back l n (fun e => hc (.inl e)) h (fun e => by
      by_cases hl : l.length ≤ 1
      · exact hl
      · exact absurd (.inr (.inr ⟨e, by omega⟩)) hc)
theorem numL_lt {l : Bs} {n : Nat} (h : numL l = some n) : n < 1000000000 := by
  unfold numL at h
  split at h
  · cases h
  · rename_i hc
    have hl : l.length ≤ 9 := by
      by_cases hl : l.length ≤ 9
      · exact hl
      · exact absurd (.inr (.inl (by omega))) hc
    have h1 := Go.Lib.decFrom_lt l 0 n h
    have h2 : 10 ^ l.length ≤ 10 ^ 9 := Nat.pow_le_pow_right (by decide) hl
    omega
/-- The pieces between separators. -/
def splitL (c : UInt8) : Bs → List Bs
  | [] => [[]]
  | x :: l => if x = c then [] :: splitL c l else match splitL c l with
    | [] => [[x]]
    | w :: r => (x :: w) :: r
theorem splitL_ne (c : UInt8) (l : Bs) : splitL c l ≠ [] := by
  cases l with
  | nil => exact List.cons_ne_nil _ _
  | cons x l =>
    rw [splitL]
    split
    · exact List.cons_ne_nil _ _
    · split <;> exact List.cons_ne_nil _ _
theorem splitL_none {c : UInt8} : ∀ {l : Bs}, c ∉ l → splitL c l = [l]
  | [], _ => rfl
  | x :: l, h => by
    have hx : x ≠ c := fun e => h (by simp [e])
    rw [splitL, if_neg hx, splitL_none (l := l) (fun hm => h (by simp [hm]))]
theorem splitL_cons {c : UInt8} (r : Bs) : ∀ {a : Bs}, c ∉ a → splitL c (a ++ c :: r) = a :: splitL c r
  | [], _ => by rw [List.nil_append, splitL, if_pos rfl]
  | x :: a, h => by
    have hx : x ≠ c := fun e => h (by simp [e])
    rw [List.cons_append, splitL, if_neg hx, splitL_cons r (a := a) (fun hm => h (by simp [hm]))]
/-- Pieces, with the separator between them. -/
def joinL (c : UInt8) : List Bs → Bs
  | [] => []
  | [a] => a
  | a :: b :: r => a ++ c :: joinL c (b :: r)
theorem joinL_split (c : UInt8) : ∀ l : Bs, joinL c (splitL c l) = l
  | [] => rfl
  | x :: l => by
    have ih := joinL_split c l
    have hne := splitL_ne c l
    rw [splitL]
    split
    · rename_i hx
      subst hx
      cases hs : splitL x l with
      | nil => exact absurd hs hne
      | cons w r =>
        rw [hs] at ih
        rw [joinL, ih]
        rfl
    · cases hs : splitL c l with
      | nil => exact absurd hs hne
      | cons w r =>
        rw [hs] at ih
        cases r with
        | nil =>
          simp only [joinL] at ih ⊢
          rw [ih]
        | cons b r =>
          simp only [joinL] at ih ⊢
          rw [List.cons_append, ih]
/-- Pieces that bear no separator are found again. -/
theorem splitL_join {c : UInt8} : ∀ {ws : List Bs}, ws ≠ [] → (∀ w, w ∈ ws → c ∉ w) → splitL c (joinL c ws) = ws
  | [], h, _ => absurd rfl h
  | [a], _, h => splitL_none (h a (by simp))
  | a :: b :: r, _, h => by
    rw [joinL, splitL_cons _ (h a (by simp)), splitL_join (ws := b :: r) (List.cons_ne_nil _ _) (fun w hw => h w (by simp at hw ⊢; exact .inr hw))]
/-- The library's pieces. -/
theorem index_one (c : UInt8) : ∀ l : Bs, (Go.Lib.index l [c] = -1 ∧ c ∉ l) ∨ ∃ a r, l = a ++ c :: r ∧ c ∉ a ∧ Go.Lib.index l [c] = (a.length : Int)
  | l => by
    rcases Go.Lib.index_spec l [c] with ⟨h1, h2⟩ | ⟨i, h1, hi, h2, h3⟩
    · refine .inl ⟨h1, fun hm => ?_⟩
      obtain ⟨j, hj⟩ := List.mem_iff_getElem?.1 hm
      have hjl : j < l.length := (List.getElem?_eq_some_iff.1 hj).1
      have := h2 j (by omega)
      unfold Go.Lib.occAt at this
      rw [List.drop_eq_getElem_cons hjl] at this
      have e := (List.getElem?_eq_some_iff.1 hj).2
      rw [e] at this
      simp at this
    · have hc := Go.Lib.occAt_head (t := []) rfl h2
      have hil : i < l.length := (List.getElem?_eq_some_iff.1 hc).1
      have e := (List.getElem?_eq_some_iff.1 hc).2
      refine .inr ⟨l.take i, l.drop (i + 1), ?_, ?_, ?_⟩
      · exact ((List.take_append_drop i l).symm).trans (by rw [List.drop_eq_getElem_cons hil, e])
      · intro hm
        obtain ⟨j, hj⟩ := List.mem_iff_getElem?.1 hm
        have hjl : j < (l.take i).length := (List.getElem?_eq_some_iff.1 hj).1
        rw [List.length_take] at hjl
        rw [List.getElem?_take_of_lt (by omega)] at hj
        have hb := h3 j (by omega)
        have hjl2 : j < l.length := by omega
        unfold Go.Lib.occAt at hb
        rw [List.drop_eq_getElem_cons hjl2] at hb
        have e2 := (List.getElem?_eq_some_iff.1 hj).2
        rw [e2] at hb
        simp at hb
      · rw [h1, List.length_take]
        omega
theorem splitK_one (c : UInt8) : ∀ (l : Bs) (k : Nat), Go.Lib.count l [c] ≤ k → Go.Lib.splitK [c] 0 k l = splitL c l := by
  intro l
  induction hn : l.length using Nat.strongRecOn generalizing l with
  | ind n ih =>
    intro k hk
    rcases index_one c l with ⟨h1, h2⟩ | ⟨a, r, rfl, ha, h1⟩
    · rw [splitL_none h2]
      cases k with
      | zero => rfl
      | succ k => rw [Go.Lib.splitK, h1, if_pos (by decide)]
    · have hc := Go.Lib.count_hit (List.cons_ne_nil c []) h1
      have hd : (a ++ c :: r).drop (a.length + [c].length) = r := by
        rw [List.length_singleton, ← List.drop_drop, List.drop_left]
        rfl
      rw [hd] at hc
      cases k with
      | zero => omega
      | succ k =>
        rw [Go.Lib.splitK, h1, if_neg (by simp), splitL_cons r ha, Int.toNat_natCast, hd, Nat.add_zero, List.take_left]
        rw [ih r.length (by rw [← hn]; simp; omega) r rfl k (by omega)]
theorem splitB_one (c : UInt8) (s : ByteArray) : (Go.Lib.splitB (bS [c]) 0 (Go.Lib.countB s (bS [c])) s).map (·.data.toList) = splitL c s.data.toList := by
  rw [Go.Lib.splitB_data]
  exact splitK_one c _ _ (Nat.le_refl _)
theorem cut_one {c : UInt8} {a r : Bs} (h : c ∉ a) : Go.Lib.cut (a ++ c :: r) [c] = (a, r, true) := by
  have hi : Go.Lib.index (a ++ c :: r) [c] = (a.length : Int) := by
    rcases index_one c (a ++ c :: r) with ⟨_, h2⟩ | ⟨a', r', e, ha, h1⟩
    · exact absurd (by simp) h2
    · have h3 := splitL_cons (c := c) r h
      rw [e, splitL_cons r' ha] at h3
      rw [h1]
      simp only [List.cons.injEq] at h3
      rw [h3.1]
  unfold Go.Lib.cut
  rw [hi, if_pos (by omega), Int.toNat_natCast, List.take_left, List.length_singleton, ← List.drop_drop, List.drop_left]
  rfl
theorem map_back {α : Type} {f : α → α} : ∀ {l : List α}, (∀ x, x ∈ l → f x = x) → l.map f = l
  | [], _ => rfl
  | a :: l, h => by rw [List.map_cons, h a (by simp), map_back (fun x hx => h x (by simp [hx]))]
theorem joinL_snoc (c : UInt8) : ∀ (ws : List Bs) (w : Bs), ws ≠ [] → joinL c (ws ++ [w]) = joinL c ws ++ c :: w
  | [], _, h => absurd rfl h
  | [a], w, _ => rfl
  | a :: b :: r, w, _ => by
    have := joinL_snoc c (b :: r) w (List.cons_ne_nil _ _)
    rw [List.cons_append, List.cons_append, joinL, ← List.cons_append, this, joinL, List.append_assoc, List.cons_append]
theorem joinL_len {c : UInt8} {k : Nat} : ∀ {ws : List Bs}, (∀ w, w ∈ ws → w.length ≤ k) → (joinL c ws).length ≤ (k + 1) * ws.length
  | [], _ => by simp [joinL]
  | [a], h => by
    have := h a (by simp)
    simp only [joinL, List.length_singleton]
    omega
  | a :: b :: r, h => by
    have h1 := h a (by simp)
    have h2 := joinL_len (c := c) (k := k) (ws := b :: r) (fun w hw => h w (by simp at hw ⊢; exact .inr hw))
    rw [joinL, List.length_append, List.length_cons, List.length_cons, Nat.mul_add]
    omega
theorem dg_len {n : Int} (k : Nat) (h0 : 0 ≤ n) (h : n.toNat < 10 ^ (k + 1)) : (dg n).length ≤ k + 1 := dd_len_le k n.toNat h
theorem join_joinL (c : UInt8) : ∀ ws : List Bs, Go.Lib.join ws [c] = joinL c ws
  | [] => rfl
  | [a] => by rw [Go.Lib.join_one]; rfl
  | a :: b :: r => by
    have ih := join_joinL c (b :: r)
    rw [Go.Lib.join_cons] at ih ⊢
    rw [joinL, ← ih]
    simp [Go.Lib.joinTail]
theorem dd_inj {u v : Nat} (h : decDigits u = decDigits v) : u = v := by
  have h1 := dd_read u
  rw [h, dd_read] at h1
  exact (Option.some.inj h1).symm
theorem dg_inj {n m : Int} (h0 : 0 ≤ n) (h1 : 0 ≤ m) (h : dg n = dg m) : n = m := by have := dd_inj h; omega
theorem not_dig {n : Int} {x : UInt8} (h : x.toNat < 48 ∨ 57 < x.toNat) : x ∉ dg n := fun hm => by have := dg_digit hm; omega
theorem map_dg_inj : ∀ {E F : List Int}, (∀ x, x ∈ E → 0 ≤ x) → (∀ x, x ∈ F → 0 ≤ x) → E.map dg = F.map dg → E = F
  | [], [], _, _, _ => rfl
  | [], _ :: _, _, _, h => by cases h
  | _ :: _, [], _, _, h => by cases h
  | a :: E, b :: F, h1, h2, h => by
    simp only [List.map_cons, List.cons.injEq] at h
    rw [dg_inj (h1 a (by simp)) (h2 b (by simp)) h.1, map_dg_inj (fun x hx => h1 x (by simp [hx])) (fun x hx => h2 x (by simp [hx])) h.2]
/-- What strconv reads, and whether it is written so. -/
def rdN (l : Bs) : Int := match Go.Lib.parseIntB 64 l with
  | .ok v => v
  | .range => Go.Lib.intSat 64 l
  | _ => 0
def rdOk (l : Bs) : Bool := match Go.Lib.parseIntB 64 l with
  | .ok v => itoa v == l
  | _ => false
theorem rd_dg {n : Int} (h0 : 0 ≤ n) (h1 : n < 1000000000000000000) : rdN (dg n) = n ∧ rdOk (dg n) = true := by
  unfold rdN rdOk
  rw [atoi_dg h0 h1]
  refine ⟨rfl, ?_⟩
  show (itoa n == dg n) = true
  rw [itoa_dg h0]
  exact beq_self_eq_true _
theorem rd_back {l : Bs} (h : rdOk l = true) (h0 : 0 ≤ rdN l) : dg (rdN l) = l := by
  unfold rdOk at h
  unfold rdN at h0 ⊢
  split at h
  · rename_i v hv
    rw [hv] at h0 ⊢
    rw [← itoa_dg h0]
    exact eq_of_beq h
  · cases h
theorem rdN_bd (l : Bs) : -9223372036854775808 ≤ rdN l ∧ rdN l ≤ 9223372036854775807 := by
  unfold rdN
  split
  · rename_i v hv
    rw [Go.Lib.parseIntB_64] at hv
    exact Go.Lib.atoiAll_bounds hv
  · rw [Go.Lib.intSat_64]
    exact Go.Lib.atoiSat_bounds l
  · omega
def shN (l : Bs) : Int := if (rdOk l && inR (rdN l) 0 32767) = true then rdN l else -1
theorem shN_dg {n : Int} (h0 : 0 ≤ n) (h1 : n ≤ 32767) : shN (dg n) = n := by
  obtain ⟨e1, e2⟩ := rd_dg h0 (by omega : n < 1000000000000000000)
  unfold shN
  rw [e1, e2, if_pos]
  simp [inR]
  omega
theorem shN_bd (l : Bs) : -1 ≤ shN l ∧ shN l ≤ 32767 := by
  unfold shN
  split
  · rename_i h
    simp only [Bool.and_eq_true, inR, decide_eq_true_eq] at h
    omega
  · omega
end Go.Proofs.YtgibcacciedobaaGreatDoor
end
section
/- A region that draws its order, whose callees may lay blocks, and whose last operations come one behind the other. -/
namespace Go.Proofs.YtgibcacciedobaaGreatDoor
open Go.RowKit Go.Proofs.YtgibcacciedobaaGreatDoorW.PrintWords Go.Proofs.YtgibcacciedobaaGreatDoorW.PrintMore
set_option linter.unusedVariables false
set_option linter.unusedSimpArgs false
set_option maxRecDepth 100000

section
variable {P : Program} {ops : Array Oper} {md : Region.Mode} {C : World → Prop}
/-- The operations ahead of n in whatever order: each is quiet in the class, none from n on can come up among them. -/
def headQ (P : Program) (md : Region.Mode) (ops : Array Oper) (C : World → Prop) (n : Nat) (L : Array Bool → Act → Prop) : Nat → Array Bool → Act → Prop
  | 0, listed, a => L listed a
  | f + 1, listed, a => Region.ready md ops listed ≠ [] ∧ ∀ i ∈ Region.ready md ops listed, i < n ∧ qOp P ops C i (headQ P md ops C n L f (listed.setIfInBounds i true)) a
theorem headQ_any {n g : Nat} {L : Array Bool → Act → Prop} {Q' : Exit → Act → World → Prop} (hL : ∀ listed a w, C w → L listed a → wpAny P md ops Q' g listed a w) :
    ∀ (f : Nat) (listed : Array Bool) (a : Act) (w : World), C w → headQ P md ops C n L f listed a → wpAny P md ops Q' (f + g) listed a w
  | 0, _, _, _, hw, h => by rw [Nat.zero_add]; exact hL _ _ _ hw h
  | f + 1, _, _, _, hw, h => by
    rw [Nat.add_right_comm]
    exact ⟨fun h0 => absurd h0 h.1, fun i hi => wpOp_of_qOp hw (fun a' w' hw' h' => headQ_any hL f _ a' w' hw' h') (h.2 i hi).2⟩
/-- An operation that is ready and apart from what has not come up is taken first. -/
theorem headQ_first {n i : Nat} {oi : Oper} {v : Value} {L : Array Bool → Act → Prop} (hi : ops[i]? = some oi) (hsel : ∀ (j : Nat) (o : Oper) cs b, ops[j]? = some o → o.op ≠ .select cs b)
    (hs : Region.sinkB md ops n = true) (hc : Region.chainB md ops n = true) (hn : n < ops.size) (hin : i < n) (hL : ∀ listed a, L listed a → ∀ j ∈ Region.ready md ops listed, n ≤ j) (f : Nat) :
    ∀ (listed : Array Bool) (a : Act), HeadInv md ops n listed →
      (∀ j oj, ops[j]? = some oj → j ≠ i → listed.getD j true = false → (∀ e ∈ oj.after, Region.binds md e = true → e.on ≠ i) → oi.apart ops oj = true) →
      i ∈ Region.ready md ops listed → YieldsIn P ops C oi v a → headQ P md ops C n L f (listed.setIfInBounds i true) (a.put oi.dst v) → headQ P md ops C n L (f + 1) listed a := by
  induction f with
  | zero =>
    intro listed a inv _ hr hy H
    refine ⟨fun h => (by rw [h] at hr; cases hr), fun j hj => ?_⟩
    by_cases hji : j = i
    · subst hji
      exact ⟨hin, hy.qOp hi H⟩
    · have h1 := hL _ _ H j (ready_mono hj hji)
      exact absurd hj (tail_waits hs hc hn inv _ i rfl hin (mem_ready.1 hr).1 j h1)
  | succ f ih =>
    intro listed a inv hfree hr hy H
    have hun := (mem_ready.1 hr).1
    refine ⟨fun h => (by rw [h] at hr; cases hr), fun j hj => ?_⟩
    by_cases hji : j = i
    · subst hji
      exact ⟨hin, hy.qOp hi H⟩
    · obtain ⟨hjn, h1⟩ := H.2 j (ready_mono hj hji)
      refine ⟨hjn, ?_⟩
      obtain ⟨hjun, oj, hoj, hall⟩ := mem_ready.1 hj
      have hno : ∀ e ∈ oj.after, Region.binds md e = true → e.on ≠ i := fun e he hb heq => by
        have h2 := hall e he hb
        rw [heq, getD_both hun] at h2
        cases h2
      refine qOp_mono (fun a' h3 => ih (listed.setIfInBounds j true) a' (inv.set hj hjn) (fun k ok hk hki hkun hkno => ?_) (ready_mono hr (Ne.symm hji)) h3.1 ?_)
        (qOp_put hoj (hfree j oj hoj hji hjun hno) (fun cs b => hsel i oi cs b hi) (fun cs b => hsel j oj cs b hoj) hy h1)
      · refine hfree k ok hk hki ?_ hkno
        by_cases hjk : j = k
        · rw [← hjk]
          exact hjun
        · rwa [getD_set_ne true hjk] at hkun
      · rw [Array.setIfInBounds_comm _ _ hji]
        exact h3.2
theorem headQ_lex {n g : Nat} {K : Act → Prop} (hsel : Region.noSelect ops = true) (hs : Region.sinkB md ops n = true) (hc : Region.chainB md ops n = true) (hn : n < ops.size) :
    ∀ (l : List Oper) (k : Nat) (listed : Array Bool) (a : Act), (∀ j, j < l.length → l[j]? = ops[k + j]?) → k + l.length = n → HeadInv md ops n listed →
    Region.lexHead md ops g l.length k listed = true → wpQuiet P ops C K l a → headQ P md ops C n (fun listed' a' => Region.seqB md ops g n listed' = true ∧ K a') l.length listed a
  | [], k, listed, a, _, hk, _, hB, h => by
    obtain rfl : k = n := hk
    exact ⟨hB, h⟩
  | o :: l, k, listed, a, hl, hk, inv, hB, h => by
    have h0 : ops[k]? = some o := (hl 0 (by simp)).symm
    simp only [List.length_cons, Region.lexHead, Bool.and_eq_true] at hB
    obtain ⟨⟨hr, hf⟩, hB'⟩ := hB
    have hkn : k < n := by rw [← hk]; simp
    have hr' : k ∈ Region.ready md ops listed := by simpa using hr
    obtain ⟨v, hy, hK⟩ := yieldsIn_of_qOp (K := wpQuiet P ops C K l) h0 (by unfold qOp; simp only [h0]; exact h)
    exact headQ_first h0 (Region.noSelect_spec hsel) hs hc hn hkn (fun _ _ hL => seqB_ready hL.1) l.length listed a inv (Region.free_spec h0 hf) hr' hy
      (headQ_lex hsel hs hc hn l (k + 1) _ _ (fun j hj => by have := hl (j + 1) (by simpa using hj); rw [Nat.add_assoc, Nat.add_comm 1 j]; exact this) (by rw [← hk, List.length_cons]; omega) (inv.set hr' hkn) hB' hK)
/-- The first n operations in the text's order serve every order; the rest comes one behind the other, from whatever world of the class. -/
theorem region_quiet_tail {id : Nat} {Q : Exit → Act → World → Prop} {a : Act} {w : World} {l : List Oper} (n : Nat) (hm : P.follows .mixedOrders = true) (hB : Region.lexTailB .any l.toArray n = true) (hC : C w.drew)
    (h : wpQuiet P l.toArray C (fun a' => ∀ w', C w' → wpList P l.toArray Q (l.drop n) a' w') (l.take n) a) : (Code.region id l.toArray true).wp P Q a w := by
  simp only [Region.lexTailB, Bool.and_eq_true, decide_eq_true_eq] at hB
  obtain ⟨⟨⟨⟨hsel, hn⟩, hs⟩, hc⟩, hlex⟩ := hB
  have hn' : n < l.length := by simpa using hn
  have e1 : (l.take n).length = n := by simp; omega
  have e2 : (l.drop n).length = l.toArray.size - n := by simp
  have H := headQ_lex (C := C) (md := .any) (g := l.toArray.size - n) hsel hs hc hn (l.take n) 0 (Array.replicate l.toArray.size false) a (fun j hj => by rw [e1] at hj; simp [hj]) (by rw [e1]; simp)
    ⟨by simp, fun j oj _ hl => (by rw [getD_replicate_false] at hl; cases hl), fun t _ ht => getD_in (by simpa using ht) (getD_replicate_false _ _)⟩ (by rw [e1]; exact hlex) h
  refine wp_region_any hm ?_
  have := headQ_any (Q' := Q) (g := l.toArray.size - n) (fun listed a' w' hw' hL => by
    have := wpAny_of_seq (md := .any) (Q' := Q) (l.drop n) n listed a' w' (fun j => by simp [List.getElem?_drop]) (by rw [e2]; exact hL.1) (hL.2 w' hw')
    rwa [e2] at this) _ _ _ w.drew hC H
  rw [e1, show n + (l.toArray.size - n) = l.toArray.size by simp; omega] at this
  simpa using this
end
/-- The same at the class of what has grown out of w. -/
theorem region_over_tail {P : Program} {id : Nat} {Q : Exit → Act → World → Prop} {a : Act} {w : World} {l : List Oper} (n : Nat) (hm : P.follows .mixedOrders = true) (hB : Region.lexTailB .any l.toArray n = true)
    (h : wpQuiet P l.toArray (fun w' => ∃ p : Over w, w' = p.W) (fun a' => ∀ w', (∃ p : Over w, w' = p.W) → wpList P l.toArray Q (l.drop n) a' w') (l.take n) a) : (Code.region id l.toArray true).wp P Q a w :=
  region_quiet_tail n hm hB ⟨⟨w.drew, bdrew (Below.refl _ _)⟩, rfl⟩ h
end Go.Proofs.YtgibcacciedobaaGreatDoor
end
section
/- The shelf's contracts at this dump, in plain words (laid by the kit's lay-shelf and lay-plain; pruned). No condition. -/
namespace Go.Proofs
open Go.Shelf
def Tryz.lays169_ren : Go.Shelf.Ren := ⟨fun | 169 => 160 | n => n, fun | 70 => 171 | 9 => 9 | 0 => 0 | 72 => 173 | 37 => 22 | 127 => 200 | 3 => 3 | 5 => 5 | n => n, fun | n => n⟩
theorem Tryz.lays169 : Go.Proofs.Lays.n169 Tryz.prog Tryz.lays169_ren := {
  mixed := by kernel_rfl
  f169 := Tryz.func160.trans (congrArg some (by kernel_rfl))
  t0 := Tryz.underlying0
  a0 := Tryz.isAgg0
  z0 := Tryz.sizeOf0
  v0 := Tryz.zeroValue0
  t3 := Tryz.underlying3
  a3 := Tryz.isAgg3
  z3 := Tryz.sizeOf3
  v3 := Tryz.zeroValue3
  t9 := Tryz.underlying9
  a9 := Tryz.isAgg9
  z9 := Tryz.sizeOf9
  v9 := Tryz.zeroValue9
  t37 := Tryz.underlying22
  a37 := Tryz.isAgg22
  z37 := Tryz.sizeOf22
  v37 := Tryz.zeroValue22
  t70 := Tryz.underlying171
  a70 := Tryz.isAgg171
  z70 := Tryz.sizeOf171
  v70 := Tryz.zeroValue171
  t72 := Tryz.underlying173
  a72 := Tryz.isAgg173
  z72 := Tryz.sizeOf173
  v72 := Tryz.zeroValue173
  t127 := Tryz.underlying200
  a127 := Tryz.isAgg200
  z127 := Tryz.sizeOf200
  v127 := Tryz.zeroValue200 }
theorem Tryz.Builder_Extra_169 : Builder.Extra Tryz.prog Tryz.lays169_ren := {
  sizeBuilder := by kernel_rfl
  liesBuilder := by kernel_rfl
  t5 := Tryz.underlying5
  a5 := Tryz.isAgg5
  z5 := Tryz.sizeOf5
  v5 := Tryz.zeroValue5
  infoByte := by kernel_rfl
  cellsByte := by kernel_rfl
  sizeByte := by kernel_rfl
  neB5 := by decide }
def Tryz.lays156_ren : Go.Shelf.Ren := ⟨fun | 156 => 137 | 165 => 174 | 166 => 159 | 169 => 160 | 240 => 192 | 241 => 199 | 276 => 207 | 277 => 215 | n => n, fun | 31 => 125 | 9 => 9 | 3 => 3 | 4 => 4 | 0 => 0 | 20 => 20 | 72 => 173 | 76 => 176 | 70 => 171 | 37 => 22 | 75 => 175 | 127 => 200 | 164 => 206 | 5 => 5 | 80 => 178 | n => n, fun | n => n⟩
theorem Tryz.lays156 : Go.Proofs.Lays.n156 Tryz.prog Tryz.lays156_ren := {
  mixed := by kernel_rfl
  f156 := Tryz.func137.trans (congrArg some (by kernel_rfl))
  f165 := Tryz.func174.trans (congrArg some (by kernel_rfl))
  f166 := Tryz.func159.trans (congrArg some (by kernel_rfl))
  f169 := Tryz.func160.trans (congrArg some (by kernel_rfl))
  f240 := Tryz.func192.trans (congrArg some (by kernel_rfl))
  f241 := Tryz.func199.trans (congrArg some (by kernel_rfl))
  f276 := Tryz.func207.trans (congrArg some (by kernel_rfl))
  f277 := Tryz.func215.trans (congrArg some (by kernel_rfl))
  t0 := Tryz.underlying0
  a0 := Tryz.isAgg0
  z0 := Tryz.sizeOf0
  v0 := Tryz.zeroValue0
  t3 := Tryz.underlying3
  a3 := Tryz.isAgg3
  z3 := Tryz.sizeOf3
  v3 := Tryz.zeroValue3
  t4 := Tryz.underlying4
  a4 := Tryz.isAgg4
  z4 := Tryz.sizeOf4
  v4 := Tryz.zeroValue4
  t9 := Tryz.underlying9
  a9 := Tryz.isAgg9
  z9 := Tryz.sizeOf9
  v9 := Tryz.zeroValue9
  t20 := Tryz.underlying20
  a20 := Tryz.isAgg20
  z20 := Tryz.sizeOf20
  v20 := Tryz.zeroValue20
  t31 := Tryz.underlying125
  a31 := Tryz.isAgg125
  z31 := Tryz.sizeOf125
  v31 := Tryz.zeroValue125
  t37 := Tryz.underlying22
  a37 := Tryz.isAgg22
  z37 := Tryz.sizeOf22
  v37 := Tryz.zeroValue22
  t70 := Tryz.underlying171
  a70 := Tryz.isAgg171
  z70 := Tryz.sizeOf171
  v70 := Tryz.zeroValue171
  t72 := Tryz.underlying173
  a72 := Tryz.isAgg173
  z72 := Tryz.sizeOf173
  v72 := Tryz.zeroValue173
  t75 := Tryz.underlying175
  a75 := Tryz.isAgg175
  z75 := Tryz.sizeOf175
  v75 := Tryz.zeroValue175
  t76 := Tryz.underlying176
  a76 := Tryz.isAgg176
  z76 := Tryz.sizeOf176
  v76 := Tryz.zeroValue176
  t127 := Tryz.underlying200
  a127 := Tryz.isAgg200
  z127 := Tryz.sizeOf200
  v127 := Tryz.zeroValue200
  t164 := Tryz.underlying206
  a164 := Tryz.isAgg206
  z164 := Tryz.sizeOf206
  v164 := Tryz.zeroValue206 }
theorem Tryz.Builder_Extra_156 : Builder.Extra Tryz.prog Tryz.lays156_ren := {
  sizeBuilder := by kernel_rfl
  liesBuilder := by kernel_rfl
  t5 := Tryz.underlying5
  a5 := Tryz.isAgg5
  z5 := Tryz.sizeOf5
  v5 := Tryz.zeroValue5
  infoByte := by kernel_rfl
  cellsByte := by kernel_rfl
  sizeByte := by kernel_rfl
  neB5 := by decide }
open Go.RowKit in
/-- A contract of the shelf at this dump. -/
theorem Tryz.strings_Join_none (a : Option Addr) (c : Nat) (sep : ByteArray) (w : World) :
    Calls Tryz.prog 137 #[.slice a 0 c, .string sep] w fun e w' => e = .returned (.string ⟨#[]⟩) ∧ w' = w := Any.strings_Join_none Tryz.lays156 Tryz.Builder_Extra_156 a c sep w
open Go.RowKit in
/-- A contract of the shelf at this dump. -/
theorem Tryz.strings_Join (bk o c : Nat) (xs : List ByteArray) (sep : ByteArray) (w : World) (hcells : ∀ (j : Nat) x, xs[j]? = some x → w.cell? ⟨bk, o + j, none⟩ = some (.string x)) (hbk : bk < w.heap.size) (hN : xs.length ≤ 140737488355328) (hcap : xs.length ≤ c) (hlen : (Lib.join (xs.map (·.data.toList)) sep.data.toList).length ≤ 140737488355328) :
    Calls Tryz.prog 137 #[.slice (some ⟨bk, o, none⟩) xs.length c, .string sep] w fun e w' => e = .returned (.string ⟨(Lib.join (xs.map (·.data.toList)) sep.data.toList).toArray⟩) ∧ Below w.heap.size w w' := Any.strings_Join Tryz.lays156 Tryz.Builder_Extra_156 bk o c xs sep w hcells hbk hN hcap hlen
def Tryz.lays137_ren : Go.Shelf.Ren := ⟨fun | 137 => 190 | 217 => 206 | 266 => 225 | n => n, fun | 9 => 9 | 5 => 5 | 3 => 3 | n => n, fun | n => n⟩
theorem Tryz.lays137 : Go.Proofs.Lays.n137 Tryz.prog Tryz.lays137_ren := {
  mixed := by kernel_rfl
  f137 := Tryz.func190.trans (congrArg some (by kernel_rfl))
  f217 := Tryz.func206.trans (congrArg some (by kernel_rfl))
  f266 := Tryz.func225.trans (congrArg some (by kernel_rfl))
  t3 := Tryz.underlying3
  a3 := Tryz.isAgg3
  z3 := Tryz.sizeOf3
  v3 := Tryz.zeroValue3
  t5 := Tryz.underlying5
  a5 := Tryz.isAgg5
  z5 := Tryz.sizeOf5
  v5 := Tryz.zeroValue5
  t9 := Tryz.underlying9
  a9 := Tryz.isAgg9
  z9 := Tryz.sizeOf9
  v9 := Tryz.zeroValue9 }
open Go.RowKit in
/-- A contract of the shelf at this dump. -/
theorem Tryz.strings_IndexByte (s : ByteArray) (c : Int) (w : World) :
    Calls Tryz.prog 190 #[.string s, .int .u8 c] w fun e w' => e = .returned (.int .i64 (Lib.indexByte s.data.toList c.toNat.toUInt8)) ∧ w' = w := Any.strings_IndexByte Tryz.lays137 s c w
open Go.RowKit in
/-- A contract of the shelf at this dump. -/
theorem Tryz.Builder_String_k (B b : Nat) (l : List UInt8) (w : World) (h : Lib.IsBuilderF 173 5 B b (Lib.byteCells l) w) (h0 : l ≠ []) :
    Calls Tryz.prog 160 #[.pointer (some ⟨b, 0, none⟩)] w fun e w' => e = .returned (.string ⟨l.toArray⟩) ∧ (Lib.IsBuilderF 173 5 B b (Lib.byteCells l) w' ∧ Below B w w' ∧ Lib.OthersKept 5 (some b) w w') := Any.Builder_String_k Tryz.lays169 Tryz.Builder_Extra_169 B b l w h h0
open Go.RowKit in
/-- A contract of the shelf at this dump. -/
theorem Tryz.Builder_String_empty_k (B b : Nat) (w : World) (h : Lib.IsBuilderF 173 5 B b [] w) (hBw : B ≤ w.heap.size) :
    Calls Tryz.prog 160 #[.pointer (some ⟨b, 0, none⟩)] w fun e w' => e = .returned (.string ⟨#[]⟩) ∧ (Lib.IsBuilderF 173 5 B b [] w' ∧ Below B w w' ∧ Lib.OthersKept 5 (some b) w w') := Any.Builder_String_empty_k Tryz.lays169 Tryz.Builder_Extra_169 B b w h hBw
open Go.RowKit in
/-- A contract of the shelf at this dump. -/
theorem Tryz.Builder_String_any_k (B b : Nat) (l : List UInt8) (w : World) (h : Lib.IsBuilderF 173 5 B b (Lib.byteCells l) w) (hBw : B ≤ w.heap.size) :
    Calls Tryz.prog 160 #[.pointer (some ⟨b, 0, none⟩)] w fun e w' => e = .returned (.string ⟨l.toArray⟩) ∧ (Lib.IsBuilderF 173 5 B b (Lib.byteCells l) w' ∧ Below B w w' ∧ Lib.OthersKept 5 (some b) w w') := Any.Builder_String_any_k Tryz.lays169 Tryz.Builder_Extra_169 B b l w h hBw
def Tryz.laysM173_ren : Go.Shelf.Ren := ⟨fun | 173 => 175 | 246 => 200 | 283 => 216 | 284 => 217 | 285 => 218 | 286 => 219 | 129 => 233 | 317 => 232 | 318 => 234 | 319 => 235 | 320 => 236 | 337 => 239 | 338 => 240 | n => n, fun | 2 => 2 | 3 => 3 | 9 => 9 | 4 => 4 | 171 => 219 | 0 => 0 | 53 => 151 | 37 => 22 | 5 => 5 | 173 => 222 | 212 => 231 | 51 => 232 | 20 => 20 | 213 => 233 | 46 => 191 | 232 => 246 | 233 => 247 | n => n, fun | 17 => 3 | 18 => 6 | 19 => 7 | n => n⟩
theorem Tryz.laysM173 : Go.Proofs.LaysM.n173 Tryz.prog Tryz.laysM173_ren := {
  mixed := by kernel_rfl
  f129 := Tryz.func233.trans (congrArg some (by kernel_rfl))
  f173 := Tryz.func175.trans (congrArg some (by kernel_rfl))
  f246 := Tryz.func200.trans (congrArg some (by kernel_rfl))
  f283 := Tryz.func216.trans (congrArg some (by kernel_rfl))
  f284 := Tryz.func217.trans (congrArg some (by kernel_rfl))
  f285 := Tryz.func218.trans (congrArg some (by kernel_rfl))
  f286 := Tryz.func219.trans (congrArg some (by kernel_rfl))
  f317 := Tryz.func232.trans (congrArg some (by kernel_rfl))
  f318 := Tryz.func234.trans (congrArg some (by kernel_rfl))
  f319 := Tryz.func235.trans (congrArg some (by kernel_rfl))
  f320 := Tryz.func236.trans (congrArg some (by kernel_rfl))
  f337 := Tryz.func239.trans (congrArg some (by kernel_rfl))
  f338 := Tryz.func240.trans (congrArg some (by kernel_rfl))
  t0 := Tryz.underlying0
  a0 := Tryz.isAgg0
  z0 := Tryz.sizeOf0
  v0 := Tryz.zeroValue0
  t2 := Tryz.underlying2
  a2 := Tryz.isAgg2
  z2 := Tryz.sizeOf2
  v2 := Tryz.zeroValue2
  t3 := Tryz.underlying3
  a3 := Tryz.isAgg3
  z3 := Tryz.sizeOf3
  v3 := Tryz.zeroValue3
  t4 := Tryz.underlying4
  a4 := Tryz.isAgg4
  z4 := Tryz.sizeOf4
  v4 := Tryz.zeroValue4
  t5 := Tryz.underlying5
  a5 := Tryz.isAgg5
  z5 := Tryz.sizeOf5
  v5 := Tryz.zeroValue5
  t9 := Tryz.underlying9
  a9 := Tryz.isAgg9
  z9 := Tryz.sizeOf9
  v9 := Tryz.zeroValue9
  t20 := Tryz.underlying20
  a20 := Tryz.isAgg20
  z20 := Tryz.sizeOf20
  v20 := Tryz.zeroValue20
  t37 := Tryz.underlying22
  a37 := Tryz.isAgg22
  z37 := Tryz.sizeOf22
  v37 := Tryz.zeroValue22
  t46 := Tryz.underlying191
  a46 := Tryz.isAgg191
  z46 := Tryz.sizeOf191
  v46 := Tryz.zeroValue191
  t51 := Tryz.underlying232
  a51 := Tryz.isAgg232
  z51 := Tryz.sizeOf232
  v51 := Tryz.zeroValue232
  t53 := Tryz.underlying151
  a53 := Tryz.isAgg151
  z53 := Tryz.sizeOf151
  v53 := Tryz.zeroValue151
  t171 := Tryz.underlying219
  a171 := Tryz.isAgg219
  z171 := Tryz.sizeOf219
  v171 := Tryz.zeroValue219
  t173 := Tryz.underlying222
  a173 := Tryz.isAgg222
  z173 := Tryz.sizeOf222
  v173 := Tryz.zeroValue222
  t212 := Tryz.underlying231
  a212 := Tryz.isAgg231
  z212 := Tryz.sizeOf231
  v212 := Tryz.zeroValue231
  t213 := Tryz.underlying233
  a213 := Tryz.isAgg233
  z213 := Tryz.sizeOf233
  t232 := Tryz.underlying246
  a232 := Tryz.isAgg246
  z232 := Tryz.sizeOf246
  v232 := Tryz.zeroValue246
  t233 := Tryz.underlying247
  a233 := Tryz.isAgg247
  z233 := Tryz.sizeOf247
  v233 := Tryz.zeroValue247
  g17 := by kernel_rfl
  g18 := by kernel_rfl
  g19 := by kernel_rfl
  i0 := by kernel_rfl
  i2 := by kernel_rfl
  i3 := by kernel_rfl
  i4 := by kernel_rfl
  i5 := by kernel_rfl
  i9 := by kernel_rfl
  i20 := by kernel_rfl
  i37 := by kernel_rfl
  i46 := by kernel_rfl
  i51 := by kernel_rfl
  i53 := by kernel_rfl
  i171 := by kernel_rfl
  i173 := by kernel_rfl
  i212 := by kernel_rfl
  i232 := by kernel_rfl
  i233 := by kernel_rfl
  m17 := by kernel_rfl
  m18 := by kernel_rfl
  m19 := by kernel_rfl }
open Go.RowKit Go.Sort Go.Lib in
/-- A contract of the shelf at this dump. -/
theorem Tryz.strconv_FormatInt_10 (n : Int) (h0 : -9223372036854775808 ≤ n) (h1 : n ≤ 9223372036854775807) (w : World) (htab : Lib.TabIs Tryz.prog w "internal/strconv.uint64pow10" .u64 Lib.pow10Tab) :
    Calls Tryz.prog 175 #[.int .i64 n, .int .i64 10] w fun e w' => e = .returned (.string ⟨(Lib.itoa n).toArray⟩) ∧ ∃ k os, w' = grow (w.drewN k) os := Any.strconv_FormatInt_10 Tryz.laysM173 n h0 h1 w htab
def Tryz.lays145_ren : Go.Shelf.Ren := ⟨fun | 145 => 148 | 220 => 179 | 219 => 202 | 217 => 206 | 225 => 220 | 224 => 221 | 267 => 222 | 266 => 225 | 314 => 237 | n => n, fun | 9 => 9 | 4 => 4 | 59 => 159 | 3 => 3 | 5 => 5 | 46 => 191 | 146 => 236 | 51 => 232 | n => n, fun | 1 => 0 | n => n⟩
theorem Tryz.lays145 : Go.Proofs.Lays.n145 Tryz.prog Tryz.lays145_ren := {
  mixed := by kernel_rfl
  f145 := Tryz.func148.trans (congrArg some (by kernel_rfl))
  f217 := Tryz.func206.trans (congrArg some (by kernel_rfl))
  f219 := Tryz.func202.trans (congrArg some (by kernel_rfl))
  f220 := Tryz.func179.trans (congrArg some (by kernel_rfl))
  f224 := Tryz.func221.trans (congrArg some (by kernel_rfl))
  f225 := Tryz.func220.trans (congrArg some (by kernel_rfl))
  f266 := Tryz.func225.trans (congrArg some (by kernel_rfl))
  f267 := Tryz.func222.trans (congrArg some (by kernel_rfl))
  f314 := Tryz.func237.trans (congrArg some (by kernel_rfl))
  t3 := Tryz.underlying3
  a3 := Tryz.isAgg3
  z3 := Tryz.sizeOf3
  v3 := Tryz.zeroValue3
  t4 := Tryz.underlying4
  a4 := Tryz.isAgg4
  z4 := Tryz.sizeOf4
  v4 := Tryz.zeroValue4
  t5 := Tryz.underlying5
  a5 := Tryz.isAgg5
  z5 := Tryz.sizeOf5
  v5 := Tryz.zeroValue5
  t9 := Tryz.underlying9
  a9 := Tryz.isAgg9
  z9 := Tryz.sizeOf9
  v9 := Tryz.zeroValue9
  t46 := Tryz.underlying191
  a46 := Tryz.isAgg191
  z46 := Tryz.sizeOf191
  v46 := Tryz.zeroValue191
  t51 := Tryz.underlying232
  a51 := Tryz.isAgg232
  z51 := Tryz.sizeOf232
  v51 := Tryz.zeroValue232
  t59 := Tryz.underlying159
  a59 := Tryz.isAgg159
  z59 := Tryz.sizeOf159
  v59 := Tryz.zeroValue159
  t146 := Tryz.underlying236
  a146 := Tryz.isAgg236
  z146 := Tryz.sizeOf236
  v146 := Tryz.zeroValue236
  g1 := by kernel_rfl }
open Go.RowKit Go.Lib in
/-- A contract of the shelf at this dump. -/
theorem Tryz.strings_Cut (s sep : ByteArray) (m : Int) (w : World) (hs : s.size < 4294967281) (hm : w.cell? ⟨0, 0, none⟩ = some (.int .i64 m)) :
    Calls Tryz.prog 148 #[.string s, .string sep] w fun e w' => e = .returned (.tuple #[.string ⟨(Lib.cut s.data.toList sep.data.toList).1.toArray⟩, .string ⟨(Lib.cut s.data.toList sep.data.toList).2.1.toArray⟩, .bool (Lib.cut s.data.toList sep.data.toList).2.2]) ∧ ∃ n, w' = w.drewN n := Any.strings_Cut Tryz.lays145 s sep m w hs hm
def Tryz.lays138_ren : Go.Shelf.Ren := ⟨fun | 138 => 156 | 195 => 186 | 218 => 187 | 143 => 188 | 219 => 202 | 217 => 206 | 225 => 220 | 224 => 221 | 267 => 222 | 266 => 225 | 314 => 237 | n => n, fun | 9 => 9 | 3 => 3 | 4 => 4 | 5 => 5 | 0 => 0 | 46 => 191 | 146 => 236 | 51 => 232 | n => n, fun | 1 => 0 | n => n⟩
theorem Tryz.lays138 : Go.Proofs.Lays.n138 Tryz.prog Tryz.lays138_ren := {
  mixed := by kernel_rfl
  f138 := Tryz.func156.trans (congrArg some (by kernel_rfl))
  f143 := Tryz.func188.trans (congrArg some (by kernel_rfl))
  f195 := Tryz.func186.trans (congrArg some (by kernel_rfl))
  f217 := Tryz.func206.trans (congrArg some (by kernel_rfl))
  f218 := Tryz.func187.trans (congrArg some (by kernel_rfl))
  f219 := Tryz.func202.trans (congrArg some (by kernel_rfl))
  f224 := Tryz.func221.trans (congrArg some (by kernel_rfl))
  f225 := Tryz.func220.trans (congrArg some (by kernel_rfl))
  f266 := Tryz.func225.trans (congrArg some (by kernel_rfl))
  f267 := Tryz.func222.trans (congrArg some (by kernel_rfl))
  f314 := Tryz.func237.trans (congrArg some (by kernel_rfl))
  t0 := Tryz.underlying0
  a0 := Tryz.isAgg0
  z0 := Tryz.sizeOf0
  v0 := Tryz.zeroValue0
  t3 := Tryz.underlying3
  a3 := Tryz.isAgg3
  z3 := Tryz.sizeOf3
  v3 := Tryz.zeroValue3
  t4 := Tryz.underlying4
  a4 := Tryz.isAgg4
  z4 := Tryz.sizeOf4
  v4 := Tryz.zeroValue4
  t5 := Tryz.underlying5
  a5 := Tryz.isAgg5
  z5 := Tryz.sizeOf5
  v5 := Tryz.zeroValue5
  t9 := Tryz.underlying9
  a9 := Tryz.isAgg9
  z9 := Tryz.sizeOf9
  v9 := Tryz.zeroValue9
  t46 := Tryz.underlying191
  a46 := Tryz.isAgg191
  z46 := Tryz.sizeOf191
  v46 := Tryz.zeroValue191
  t51 := Tryz.underlying232
  a51 := Tryz.isAgg232
  z51 := Tryz.sizeOf232
  v51 := Tryz.zeroValue232
  t146 := Tryz.underlying236
  a146 := Tryz.isAgg236
  z146 := Tryz.sizeOf236
  v146 := Tryz.zeroValue236
  g1 := by kernel_rfl }
open Go.RowKit Go.Lib in
/-- A contract of the shelf at this dump. -/
theorem Tryz.strings_Count_one (s : ByteArray) (c : UInt8) (w : World) :
    Calls Tryz.prog 156 #[.string s, .string ⟨#[c]⟩] w fun e w' => e = .returned (.int .i64 (Lib.countByte s.data.toList c)) ∧ w' = w := Any.strings_Count_one Tryz.lays138 s c w
def Tryz.lays100_ren : Go.Shelf.Ren := ⟨fun | 100 => 155 | 207 => 185 | n => n, fun | 9 => 9 | 4 => 4 | 3 => 3 | n => n, fun | n => n⟩
theorem Tryz.lays100 : Go.Proofs.Lays.n100 Tryz.prog Tryz.lays100_ren := {
  mixed := by kernel_rfl
  f100 := Tryz.func155.trans (congrArg some (by kernel_rfl))
  f207 := Tryz.func185.trans (congrArg some (by kernel_rfl))
  t3 := Tryz.underlying3
  a3 := Tryz.isAgg3
  z3 := Tryz.sizeOf3
  v3 := Tryz.zeroValue3
  t4 := Tryz.underlying4
  a4 := Tryz.isAgg4
  z4 := Tryz.sizeOf4
  v4 := Tryz.zeroValue4
  t9 := Tryz.underlying9
  a9 := Tryz.isAgg9
  z9 := Tryz.sizeOf9
  v9 := Tryz.zeroValue9 }
open Go.RowKit Go.Lib in
/-- A contract of the shelf at this dump. -/
theorem Tryz.strings_HasSuffix (s p : ByteArray) (w : World) (hs : s.size ≤ 9223372036854775807) :
    Calls Tryz.prog 155 #[.string s, .string p] w fun e w' => e = .returned (.bool (Lib.hasSuffix s.data.toList p.data.toList)) ∧ w' = w := Any.strings_HasSuffix Tryz.lays100 s p w hs
def Tryz.lays102_ren : Go.Shelf.Ren := ⟨fun | 102 => 158 | 209 => 191 | 207 => 185 | n => n, fun | 9 => 9 | 4 => 4 | 3 => 3 | n => n, fun | n => n⟩
theorem Tryz.lays102 : Go.Proofs.Lays.n102 Tryz.prog Tryz.lays102_ren := {
  mixed := by kernel_rfl
  f102 := Tryz.func158.trans (congrArg some (by kernel_rfl))
  f207 := Tryz.func185.trans (congrArg some (by kernel_rfl))
  f209 := Tryz.func191.trans (congrArg some (by kernel_rfl))
  t3 := Tryz.underlying3
  a3 := Tryz.isAgg3
  z3 := Tryz.sizeOf3
  v3 := Tryz.zeroValue3
  t4 := Tryz.underlying4
  a4 := Tryz.isAgg4
  z4 := Tryz.sizeOf4
  v4 := Tryz.zeroValue4
  t9 := Tryz.underlying9
  a9 := Tryz.isAgg9
  z9 := Tryz.sizeOf9
  v9 := Tryz.zeroValue9 }
open Go.RowKit Go.Lib in
/-- A contract of the shelf at this dump. -/
theorem Tryz.strings_TrimSuffix (s p : ByteArray) (w : World) (hs : s.size ≤ 9223372036854775807) :
    Calls Tryz.prog 158 #[.string s, .string p] w fun e w' => e = .returned (.string ⟨(Lib.trimSuffix s.data.toList p.data.toList).toArray⟩) ∧ w' = w := Any.strings_TrimSuffix Tryz.lays102 s p w hs
def Tryz.lays146_ren : Go.Shelf.Ren := ⟨fun | 146 => 115 | 221 => 164 | 268 => 193 | 138 => 156 | 143 => 188 | 195 => 186 | 197 => 208 | 218 => 187 | 219 => 202 | 260 => 226 | 217 => 206 | 225 => 220 | 224 => 221 | 267 => 222 | 266 => 225 | 314 => 237 | n => n, fun | 9 => 9 | 31 => 125 | 3 => 3 | 4 => 4 | 0 => 0 | 105 => 208 | 21 => 21 | 5 => 5 | 46 => 191 | 119 => 238 | 139 => 241 | 138 => 240 | 146 => 236 | 51 => 232 | n => n, fun | 1 => 0 | 3 => 4 | 4 => 5 | n => n⟩
theorem Tryz.lays146 : Go.Proofs.Lays.n146 Tryz.prog Tryz.lays146_ren := {
  mixed := by kernel_rfl
  f138 := Tryz.func156.trans (congrArg some (by kernel_rfl))
  f143 := Tryz.func188.trans (congrArg some (by kernel_rfl))
  f146 := Tryz.func115.trans (congrArg some (by kernel_rfl))
  f195 := Tryz.func186.trans (congrArg some (by kernel_rfl))
  f197 := Tryz.func208.trans (congrArg some (by kernel_rfl))
  f217 := Tryz.func206.trans (congrArg some (by kernel_rfl))
  f218 := Tryz.func187.trans (congrArg some (by kernel_rfl))
  f219 := Tryz.func202.trans (congrArg some (by kernel_rfl))
  f221 := Tryz.func164.trans (congrArg some (by kernel_rfl))
  f224 := Tryz.func221.trans (congrArg some (by kernel_rfl))
  f225 := Tryz.func220.trans (congrArg some (by kernel_rfl))
  f260 := Tryz.func226.trans (congrArg some (by kernel_rfl))
  f266 := Tryz.func225.trans (congrArg some (by kernel_rfl))
  f267 := Tryz.func222.trans (congrArg some (by kernel_rfl))
  f268 := Tryz.func193.trans (congrArg some (by kernel_rfl))
  f314 := Tryz.func237.trans (congrArg some (by kernel_rfl))
  t0 := Tryz.underlying0
  a0 := Tryz.isAgg0
  z0 := Tryz.sizeOf0
  v0 := Tryz.zeroValue0
  t3 := Tryz.underlying3
  a3 := Tryz.isAgg3
  z3 := Tryz.sizeOf3
  v3 := Tryz.zeroValue3
  t4 := Tryz.underlying4
  a4 := Tryz.isAgg4
  z4 := Tryz.sizeOf4
  v4 := Tryz.zeroValue4
  t5 := Tryz.underlying5
  a5 := Tryz.isAgg5
  z5 := Tryz.sizeOf5
  v5 := Tryz.zeroValue5
  t9 := Tryz.underlying9
  a9 := Tryz.isAgg9
  z9 := Tryz.sizeOf9
  v9 := Tryz.zeroValue9
  t21 := Tryz.underlying21
  a21 := Tryz.isAgg21
  z21 := Tryz.sizeOf21
  v21 := Tryz.zeroValue21
  t31 := Tryz.underlying125
  a31 := Tryz.isAgg125
  z31 := Tryz.sizeOf125
  v31 := Tryz.zeroValue125
  t46 := Tryz.underlying191
  a46 := Tryz.isAgg191
  z46 := Tryz.sizeOf191
  v46 := Tryz.zeroValue191
  t51 := Tryz.underlying232
  a51 := Tryz.isAgg232
  z51 := Tryz.sizeOf232
  v51 := Tryz.zeroValue232
  t105 := Tryz.underlying208
  a105 := Tryz.isAgg208
  z105 := Tryz.sizeOf208
  v105 := Tryz.zeroValue208
  t119 := Tryz.underlying238
  a119 := Tryz.isAgg238
  z119 := Tryz.sizeOf238
  t138 := Tryz.underlying240
  a138 := Tryz.isAgg240
  z138 := Tryz.sizeOf240
  v138 := Tryz.zeroValue240
  t139 := Tryz.underlying241
  a139 := Tryz.isAgg241
  z139 := Tryz.sizeOf241
  v139 := Tryz.zeroValue241
  t146 := Tryz.underlying236
  a146 := Tryz.isAgg236
  z146 := Tryz.sizeOf236
  v146 := Tryz.zeroValue236
  g1 := by kernel_rfl
  g3 := by kernel_rfl
  g4 := by kernel_rfl }
open Go.RowKit Go.Lib in
/-- A contract of the shelf at this dump. -/
theorem Tryz.strings_Split (s sep : ByteArray) (m : Int) (w : World) (hs : s.size < 4294967281) (hm : w.cell? ⟨0, 0, none⟩ = some (.int .i64 m)) (h1 : 1 ≤ sep.size) :
    Calls Tryz.prog 115 #[.string s, .string sep] w fun e w' =>
      e = .returned (.slice (some ⟨w.heap.size, 0, none⟩) (Lib.countB s sep + 1) (Lib.countB s sep + 1)) ∧ w' = w.alloc (.cells ((Lib.splitB sep 0 (Lib.countB s sep) s).map Value.string).toArray 9) := Any.strings_Split Tryz.lays146 (by kernel_rfl) s sep m w hs hm h1
end Go.Proofs
end
section
/- What a number's digits want of the world; the digits that the program and the reference write. -/
namespace Go.Proofs.YtgibcacciedobaaGreatDoor
open Go.RowKit Go.Proofs.YtgibcacciedobaaGreatDoorW.PrintWords Go.Proofs.YtgibcacciedobaaGreatDoorW.PrintMore
set_option linter.unusedVariables false
set_option linter.unusedSimpArgs false
set_option maxRecDepth 100000

/-- The library's table of powers lies as its text lays it. -/
def Tab (w : World) : Prop := Lib.TabIs Tryz.prog w "internal/strconv.uint64pow10" .u64 Lib.pow10Tab
theorem gPow : Tryz.prog.globalNamed "internal/strconv.uint64pow10" = some 3 := by kernel_rfl
theorem Tab.below {w w1 : World} (h : Tab w) (hb : Below w.heap.size w w1) : Tab w1 := Go.Joins.var_stays gPow h hb (Nat.le_refl _)
theorem bgrow (w : World) (k : Nat) (os : Array Obj) : Below w.heap.size w (Go.Sort.grow (w.drewN k) os) :=
  ⟨rfl, rfl, rfl, by show w.heap.size ≤ (w.heap ++ os).size; simp, fun j hj => by show (w.heap ++ os)[j]? = w.heap[j]?; exact Array.getElem?_append_left hj⟩
theorem fmt_c (n : Int) (h0 : 0 ≤ n) (h1 : n ≤ 9223372036854775807) (w : World) (ht : Tab w) : Calls Tryz.prog 175 #[.int .i64 n, .int .i64 10] w (Ret w (.string (bS (dg n)))) :=
  (Tryz.strconv_FormatInt_10 n (by omega) h1 w ht).mono fun e w' ⟨he, k, os, hw⟩ => ⟨by rw [he, itoa_dg h0]; rfl, by rw [hw]; exact bgrow w k os⟩
theorem dec16_c (n : Int) (h0 : 0 ≤ n) (h1 : n ≤ 32767) (w : World) (ht : Tab w) : Calls Tryz.prog 149 #[.int .i16 n] w (Ret w (.string (bS (dg n)))) := by
  have HF := Aside0.mk (fmt_c n h0 (by omega) w ht)
  have hw : IntKind.i64.wrap n = n := by rw [IntKind.wrap_i64]; omega
  clear ht
  go_enter Tryz.func149, Tryz.ntmps149
  go_wp2_with (go_at_call 175; refine HF.out.mono ?_; rintro _ w1 ⟨rfl, hb1⟩)
  go_ret
  exact ⟨rfl, hb1⟩
theorem ret_str {a b : ByteArray} (h : a = b) : Ending.returned (.string a) = .returned (.string b) := by rw [h]
/-- One byte's text. -/
theorem oneC (W : World) (g : Nat) (v : Int) (h : W.cell? ⟨g, 0, none⟩ = some (.int .u8 v)) : (Kd.int .u8).C W (some ⟨g, 0, none⟩) [v].length [v] := by
  refine ⟨rfl, by simp, fun _ => ⟨_, rfl, fun j p hj => ?_⟩⟩
  match j, hj with
  | 0, hj => cases hj; exact ⟨_, rfl, rfl, fun i u hu => by match i, hu with | 0, hu => cases hu; simpa [Addr.add] using h⟩
theorem one_conv {W : World} {g : Nat} {v : Int} (h : W.cell? ⟨g, 0, none⟩ = some (.int .u8 v)) (c : Nat) : (convert 22 9 (.slice (some ⟨g, 0, none⟩) 1 c)).run Tryz.prog W = .ok (.string (bS [UInt8.ofNat v.toNat])) W :=
  Kd.C_string (xs := [v]) Tryz.underlying22 Tryz.underlying5 Tryz.underlying9 (oneC W g v h)
theorem wrap_dig {k : Int} (h0 : 0 ≤ k) (h1 : k < 10) : IntKind.u8.wrap (48 + k) = 48 + k := by simp only [IntKind.wrap, IntKind.bits, IntKind.signed, Bool.false_and, Bool.false_eq_true, if_false]; omega
theorem dg_step {n : Int} (h : 10 ≤ n) : dg n = dg (n / 10) ++ [UInt8.ofNat (48 + n % 10).toNat] := by
  unfold dg
  conv => lhs; rw [Go.Lib.decDigits, dif_neg (by omega)]
  have e1 : n.toNat / 10 = (n / 10).toNat := by omega
  have e2 : 48 + n.toNat % 10 = (48 + n % 10).toNat := by omega
  rw [e1, e2]
theorem bS_size (a : Bs) : (bS a).size = a.length := by simp [bS, ByteArray.size]
theorem conv_new (v : Int) (W : World) (c : Nat) : (convert 22 9 (.slice (some ⟨W.heap.size, 0, none⟩) 1 c)).run Tryz.prog (W.alloc (.cells #[.int .u8 v] 5)) = .ok (.string (bS [UInt8.ofNat v.toNat])) (W.alloc (.cells #[.int .u8 v] 5)) := one_conv ((blk_cell (blk_new W _) 0).trans rfl) c
end Go.Proofs.YtgibcacciedobaaGreatDoor
end
section
/- Rows of texts that a call makes; their join. -/
namespace Go.Proofs.YtgibcacciedobaaGreatDoor
open Go.RowKit Go.Proofs.YtgibcacciedobaaGreatDoorW.PrintWords Go.Proofs.YtgibcacciedobaaGreatDoorW.PrintMore
set_option linter.unusedVariables false
set_option linter.unusedSimpArgs false
set_option maxRecDepth 100000

theorem info_str : (Tryz.prog.info? 9).map (fun i => (i.zero, i.size, i.bytes)) = some (some (.string ByteArray.empty), 1, 16) := by kernel_rfl
section
variable {ops : Array Oper} {rest : List Oper} {o : Oper} {a : Act} {Q : Exit → Act → World → Prop}
/-- append(out, s). -/
theorem str_append {w W : World} (hgd : o.guard = none) (s x : Operand) (ho : o.op = .call { callee := .builtin .append, args := #[s, x], argTypes := #[125, 125] }) (v : Value) (xs : List ByteArray) (n : ByteArray)
    (hs : a.eval s = v) (hx : a.eval x = .slice (some ⟨W.heap.size, 0, none⟩) 1 1) (HO : Kd.string.R 9 W w.heap.size (fun _ => True) v xs) (HB : Below w.heap.size w W) (hl : xs.length ≤ 2097152)
    (h : ∀ v1 w1, Kd.string.R 9 w1 w.heap.size (fun _ => True) v1 (xs ++ [n]) → Below w.heap.size w w1 → W.grownBy w1 v.ownBlock → wpList Tryz.prog ops Q rest (a.put o.dst v1) w1) :
    wpList Tryz.prog ops Q (o :: rest) a (W.alloc (.cells #[.string n] 9)) :=
  Kd.R_append Kd.string (w0 := w) w.heap.size hgd s x 125 9 (.string ByteArray.empty) 16 ho Tryz.underlying125 info_str rfl (by decide) (by decide) v xs n [.string n] (fun _ => True) (fun _ => False) hs hx rfl (fun _ h => h.elim) (fun _ _ => trivial) HO HB HB.size (by omega)
    (fun v1 w1 h1 h2 h3 _ => h v1 w1 h1 h2 h3)
end
/-- A row of texts joined. -/
theorem join_R (L : List Bs) (sep : Bs) (v : Value) (w0 w : World) (hne : L ≠ []) (h : Kd.string.R 9 w w0.heap.size (fun _ => True) v (L.map bS)) (hn : L.length ≤ 2097152) (hl : (Go.Lib.join L sep).length ≤ 1000000) :
    Calls Tryz.prog 137 #[v, .string (bS sep)] w (Ret w (.string (bS (Go.Lib.join L sep)))) := by
  have hp : 0 < (L.map bS).length := by rw [List.length_map]; exact List.length_pos_iff.2 hne
  obtain ⟨g, cap, rfl, _, hg, _⟩ := Kd.R_form h hp
  have hcap := (Kd.R_reads' h).2.1
  have e : (L.map bS).map (fun x : ByteArray => x.data.toList) = L := by rw [List.map_map]; exact map_back (fun x _ => bS_toList x)
  have hj := Tryz.strings_Join g 0 cap (L.map bS) (bS sep) w (fun j x hj => by
    have hjl : j < (L.map bS).length := (List.getElem?_eq_some_iff.1 hj).1
    have := (Kd.R_cell ByteArray.empty h (j : Int) (by omega) (by omega)).1
    rw [Int.toNat_natCast] at this
    rw [Nat.zero_add, this, show Go.Proofs.YtgibcacciedobaaGreatDoorW.PrintWords.rdOf ByteArray.empty (L.map bS) (j : Int) = x by
      unfold Go.Proofs.YtgibcacciedobaaGreatDoorW.PrintWords.rdOf
      rw [Int.toNat_natCast, List.getD_eq_getElem?_getD, hj]
      rfl]) hg (by rw [List.length_map]; omega) hcap (by rw [e, bS_toList]; omega)
  rw [e, bS_toList] at hj
  exact hj

set_option maxHeartbeats 2000000 in
theorem eachDecI_c (A : Option Addr) (c : Nat) (L : List Int) (f : FuncId) (p : Int → ByteArray) (w : World) (hL : (Kd.int .i64).C w A L.length L) (hn : L.length ≤ 2097152) (hfn : Fun Tryz.prog f)
    (hf : ∀ W, Below w.heap.size w W → ∀ x, x ∈ L → Calls Tryz.prog f (#[] ++ #[.int .i64 x]) W (Ret W (.string (p x)))) :
    Calls Tryz.prog 138 #[.slice A L.length c, .func (.func f) #[] #[]] w (RetQ w (fun v w' => Kd.string.R 9 w' w.heap.size (fun _ => True) v (L.map p))) := by
  have hm := Kd.C_max hL
  have hcf := hfn.run
  have HF := Aside0.mk hf
  have HX := Aside0.mk hL
  clear hf hfn hL
  go_enter Tryz.func138, Tryz.ntmps138
  go_wp2_with fail
  go_loopg [5, 10] L.length (fun gk v5 v10 wr => ∃ s : Nat, s + gk = L.length ∧ v10 = .int .i64 s ∧ Aside0 (Kd.string.R 9 wr w.heap.size (fun _ => True) v5 ((L.take s).map p)) ∧ Aside0 (Below w.heap.size w wr))
  case atStart => exact ⟨0, by omega, rfl, ⟨Kd.R_nil _ _ _ _ _⟩, ⟨Below.refl _ _⟩⟩
  case round =>
    obtain ⟨s, hk, rfl, HR, hb⟩ := hrel
    have HK := Aside0.mk hk
    by_cases hlt : s < L.length
    · obtain ⟨ad, x, rfl, hbk, hx⟩ := at_int' (Kd.C_below HX.out hb.out) s (by omega)
      have HC := Aside0.mk (HF.out wr hb.out x (mem_of hbk.out))
      have HT := Aside0.mk (show (L.take (s + 1)).map p = (L.take s).map p ++ [p x] by rw [take_snoc hbk.out, List.map_append]; rfl)
      have i0 : (0 : Int) ≤ (s : Int) := by omega
      have i1 : (s : Int) < (L.length : Int) := by omega
      have hlen : ((L.take s).map p).length ≤ 2097152 := by rw [List.length_map, List.length_take]; omega
      generalize p x = z at HC HT
      clear hk
      go_wp2_with fail
      refine HC.out.mono ?_; rintro _ w3 ⟨rfl, hb3⟩
      have HR3 := Aside0.mk (Kd.R_below HR.out hb3)
      have HB3 := Aside0.mk (bstep hb.out hb3)
      clear hb3
      go_wp2_with (at_builtin; refine str_append (w := w) rfl (.tmp 14) (.tmp 18) rfl _ ((L.take s).map p) z rfl rfl HR3.out HB3.out hlen ?_; intro v1 w9 hR1 hB1 _; have HR9 := Aside0.mk hR1; have HB9 := Aside0.mk hB1; clear hR1 hB1)
      go_roundg (gk - 1)
      case measure => have := HK.out; omega
      case rel => exact ⟨s + 1, by have := HK.out; omega, by go_num, ⟨by rw [HT.out]; exact HR9.out⟩, HB9⟩
    · have hs : L.take s = L := List.take_of_length_le (by omega)
      rw [hs] at HR
      clear hk hs
      go_wp2
      go_ret
      exact ⟨_, rfl, hb.out, HR.out⟩

theorem dec64_c (n : Int) (h0 : 0 ≤ n) (h1 : n ≤ 9223372036854775807) (w : World) (ht : Tab w) : Calls Tryz.prog 139 #[.int .i64 n] w (Ret w (.string (bS (dg n)))) := by
  have HF := Aside0.mk (fmt_c n h0 (by omega) w ht)
  clear ht
  go_enter Tryz.func139, Tryz.ntmps139
  go_wp2_with (go_at_call 175; refine HF.out.mono ?_; rintro _ w1 ⟨rfl, hb1⟩)
  go_ret
  exact ⟨rfl, hb1⟩
end Go.Proofs.YtgibcacciedobaaGreatDoor
end
section
/- Texts of layouts and of numbers, in plain Lean. -/
namespace Go.Proofs.YtgibcacciedobaaGreatDoor
open Go.RowKit Go.Proofs.YtgibcacciedobaaGreatDoorW.PrintWords Go.Proofs.YtgibcacciedobaaGreatDoorW.PrintMore
set_option linter.unusedVariables false
set_option linter.unusedSimpArgs false
set_option maxRecDepth 100000

def lyT (E : List Int) : Bs := joinL 44 (E.map dg)
def plainE (E : List Int) : Bool := inR E.length 1 12 && E.all (fun x => inR x 0 60)
structure PlE (E : List Int) : Prop where
  n : 1 ≤ E.length ∧ E.length ≤ 12
  x : ∀ x, x ∈ E → 0 ≤ x ∧ x ≤ 60
theorem plE {E : List Int} (h : plainE E = true) : PlE E := by
  simp only [plainE, inR, Bool.and_eq_true, decide_eq_true_eq, List.all_eq_true] at h
  exact ⟨by omega, h.2⟩
theorem PlE.plain {E : List Int} (h : PlE E) : plainE E = true := by
  simp only [plainE, inR, Bool.and_eq_true, decide_eq_true_eq, List.all_eq_true]
  exact ⟨by have := h.n; omega, h.x⟩
def RdL (l : Bs) (E : List Int) : Prop := plainE E = true ∧ lyT E = l
theorem no44 {E : List Int} : ∀ w, w ∈ E.map dg → (44 : UInt8) ∉ w := by
  intro w hw
  obtain ⟨x, _, rfl⟩ := List.mem_map.1 hw
  exact not_dig (by decide)
theorem rdl_words {l : Bs} {E : List Int} (h : RdL l E) : splitL 44 l = E.map dg := by
  rw [← h.2]
  exact splitL_join (fun e => by have h1 := (plE h.1).n; have := congrArg List.length e; rw [List.length_map, List.length_nil] at this; omega) no44
theorem RdL.unique {l : Bs} {E F : List Int} (h : RdL l E) (h' : RdL l F) : E = F :=
  map_dg_inj (fun x hx => ((plE h.1).x x hx).1) (fun x hx => ((plE h'.1).x x hx).1) (by rw [← rdl_words h, ← rdl_words h'])
/-- How a layout is read. -/
def LyR (l : Bs) (E : List Int) (n err : Int) : Prop := (n = 0 ∧ RdL l E) ∨ (n = err ∧ E = [] ∧ ∀ F, ¬ RdL l F)
theorem LyR.unique {l : Bs} {E F : List Int} {n m err : Int} (h : LyR l E n err) (h' : LyR l F m err) : E = F ∧ n = m := by
  rcases h with ⟨h1, h2⟩ | ⟨h1, h2, h3⟩ <;> rcases h' with ⟨k1, k2⟩ | ⟨k1, k2, k3⟩
  · exact ⟨h2.unique k2, by rw [h1, k1]⟩
  · exact absurd h2 (k3 _)
  · exact absurd k2 (h3 _)
  · exact ⟨by rw [h2, k2], by rw [h1, k1]⟩
theorem rdl_many {l : Bs} (h : 12 < (splitL 44 l).length) (F : List Int) : ¬ RdL l F := fun hr => by
  rw [rdl_words hr, List.length_map] at h
  have := (plE hr.1).n
  omega
/-- The program's word is no number of a layout. -/
theorem rdl_bad {l w : Bs} (hw : w ∈ splitL 44 l) (h : (rdOk w && inR (rdN w) 0 60) = false) (F : List Int) : ¬ RdL l F := fun hr => by
  rw [rdl_words hr] at hw
  obtain ⟨x, hx, rfl⟩ := List.mem_map.1 hw
  have hx := (plE hr.1).x x hx
  obtain ⟨e1, e2⟩ := rd_dg hx.1 (by omega)
  rw [e1, e2] at h
  simp [inR] at h
  omega
theorem rdl_all {l : Bs} (hn : (splitL 44 l).length ≤ 12) (h : ∀ w, w ∈ splitL 44 l → (rdOk w && inR (rdN w) 0 60) = true) : RdL l ((splitL 44 l).map rdN) := by
  have hw : ∀ w, w ∈ splitL 44 l → dg (rdN w) = w ∧ 0 ≤ rdN w ∧ rdN w ≤ 60 := by
    intro w hw
    have := h w hw
    simp only [Bool.and_eq_true, inR, decide_eq_true_eq] at this
    exact ⟨rd_back this.1 this.2.1, this.2⟩
  have e : ((splitL 44 l).map rdN).map dg = splitL 44 l := by
    rw [List.map_map]
    conv => rhs; rw [← List.map_id (splitL 44 l)]
    exact List.map_congr_left (fun w h => (hw w h).1)
  refine ⟨PlE.plain ⟨⟨?_, by rw [List.length_map]; exact hn⟩, ?_⟩, ?_⟩
  · rw [List.length_map]
    exact List.length_pos_iff.2 (splitL_ne _ _)
  · intro x hx
    obtain ⟨w, h1, rfl⟩ := List.mem_map.1 hx
    exact (hw w h1).2
  · unfold lyT
    rw [e]
    exact joinL_split 44 l
/-- The reference's word is no number. -/
theorem rdl_numNone {l w : Bs} (hw : w ∈ splitL 44 l) (h : numL w = none) (F : List Int) : ¬ RdL l F := fun hr => by
  rw [rdl_words hr] at hw
  obtain ⟨x, hx, rfl⟩ := List.mem_map.1 hw
  have hx := (plE hr.1).x x hx
  rw [numL_dg hx.1 (by omega)] at h
  cases h
/-- The number of a word that the reference has read. -/
def nmL (w : Bs) : Int := ((numL w).getD 0 : Nat)
theorem rdl_num {l : Bs} (h : ∀ w, w ∈ splitL 44 l → ∃ n, numL w = some n) : lyT ((splitL 44 l).map nmL) = l := by
  have e : ((splitL 44 l).map nmL).map dg = splitL 44 l := by
    rw [List.map_map]
    conv => rhs; rw [← List.map_id (splitL 44 l)]
    exact List.map_congr_left (fun w hw => by
      obtain ⟨n, hn⟩ := h w hw
      show dg (nmL w) = w
      unfold nmL
      rw [hn]
      exact numL_back hn)
  unfold lyT
  rw [e]
  exact joinL_split 44 l
theorem rdl_notPlain {l : Bs} (h : ∀ w, w ∈ splitL 44 l → ∃ n, numL w = some n) (hp : plainE ((splitL 44 l).map nmL) = false) (F : List Int) : ¬ RdL l F := fun hr => by
  have e := rdl_words hr
  have : (splitL 44 l).map nmL = F := by
    rw [e, List.map_map]
    conv => rhs; rw [← List.map_id F]
    exact List.map_congr_left (fun x hx => by
      have hx := (plE hr.1).x x hx
      show nmL (dg x) = x
      unfold nmL
      rw [numL_dg hx.1 (by omega)]
      show ((x.toNat : Nat) : Int) = x
      omega)
  rw [this, hr.1] at hp
  cases hp
theorem lyT_len {E : List Int} (h : PlE E) : (lyT E).length ≤ 40 := by
  have h1 : ∀ w, w ∈ E.map dg → w.length ≤ 2 := by
    intro w hw
    obtain ⟨x, hx, rfl⟩ := List.mem_map.1 hw
    have := h.x x hx
    exact dg_len 1 this.1 (by omega)
  have h2 := joinL_len (c := 44) h1
  rw [List.length_map] at h2
  have := h.n
  unfold lyT
  omega
end Go.Proofs.YtgibcacciedobaaGreatDoor
end
section
/- The texts of layouts: the program's and the reference's. -/
namespace Go.Proofs.YtgibcacciedobaaGreatDoor
open Go.RowKit Go.Proofs.YtgibcacciedobaaGreatDoorW.PrintWords Go.Proofs.YtgibcacciedobaaGreatDoorW.PrintMore
set_option linter.unusedVariables false
set_option linter.unusedSimpArgs false
set_option maxRecDepth 100000

theorem withinT64_c (n lo hi : Int) (w : World) : Calls Tryz.prog 87 #[.int .i64 n, .int .i64 lo, .int .i64 hi] w (RetS w (.bool (inR n lo hi))) := by
  go_enter Tryz.func87, Tryz.ntmps87
  go_wp2
  all_goals (go_ret; refine ⟨ret_bool ?_, rfl⟩; unfold inR; rw [Bool.eq_iff_iff]; simp; omega)

theorem indexFuncT64_c (A : Option Addr) (c : Nat) (L : List Int) (f : FuncId) (cap : Array Value) (p : Int → Bool) (w : World)
    (hL : (Kd.int .i64).C w A L.length L) (hfn : Fun Tryz.prog f)
    (hf : ∀ W, Below w.heap.size w W → ∀ x, x ∈ L → Calls Tryz.prog f (#[.int .i64 x] ++ cap) W (Ret W (.bool (p x)))) :
    Calls Tryz.prog 214 #[.slice A L.length c, .func (.func f) #[] cap] w (Ret w (.int .i64 (idxF L p))) := by
  have hm := Kd.C_max hL
  have hcf := hfn.run
  have HF := Aside0.mk hf
  have HL := Aside0.mk hL
  clear hf hfn hL
  go_enter Tryz.func214, Tryz.ntmps214
  go_wp2
  go_loopg [8] L.length (fun gk v8 wr => ∃ k : Nat, k + gk = L.length ∧ v8 = .int .i64 k ∧ Aside0 (∀ x, x ∈ L.take k → p x = false) ∧ Aside0 (Below w.heap.size w wr))
  case atStart => exact ⟨0, by omega, rfl, ⟨by simp⟩, ⟨Below.refl _ _⟩⟩
  case round =>
    obtain ⟨k, hk, rfl, hp, hb⟩ := hrel
    have HK := Aside0.mk hk
    by_cases hlt : k < L.length
    · obtain ⟨ad, x, rfl, hbk, hx⟩ := at_int' (Kd.C_below HL.out hb.out) k (by omega)
      clear hk
      go_wp2_with (refine (HF.out _ hb.out _ (mem_of hbk.out)).mono ?_; rintro _ w1 ⟨rfl, hb1⟩)
      · rename_i hpb
        go_ret
        exact ⟨ret_int (idxF_hit hp.out hbk.out hpb).symm, bstep hb.out hb1⟩
      · rename_i hpb
        go_roundg (gk - 1)
        case measure => have := HK.out; omega
        case rel => exact ⟨k + 1, by have := HK.out; omega, by go_num, ⟨fun y hy => by rw [take_snoc hbk.out] at hy; rcases List.mem_append.1 hy with hy | hy; exact hp.out y hy; rw [List.mem_singleton.1 hy]; exact hpb⟩, ⟨bstep hb.out hb1⟩⟩
    · clear hk
      go_wp2
      go_ret
      refine ⟨ret_int (idxF_none ?_).symm, hb.out⟩
      have hp1 := hp.out
      rw [List.take_of_length_le (by omega)] at hp1
      exact hp1


theorem containsFuncT64_c (A : Option Addr) (c : Nat) (L : List Int) (f : FuncId) (cap : Array Value) (p : Int → Bool) (w : World)
    (hL : (Kd.int .i64).C w A L.length L) (hfn : Fun Tryz.prog f)
    (hf : ∀ W, Below w.heap.size w W → ∀ x, x ∈ L → Calls Tryz.prog f (#[.int .i64 x] ++ cap) W (Ret W (.bool (p x)))) :
    Calls Tryz.prog 197 #[.slice A L.length c, .func (.func f) #[] cap] w (Ret w (.bool (L.any p))) := by
  have HI := Aside0.mk (indexFuncT64_c A c L f cap p w hL hfn hf)
  clear hL hfn hf
  go_enter Tryz.func197, Tryz.ntmps197
  go_wp2_with (go_at_call 214; refine HI.out.mono ?_; rintro _ w1 ⟨rfl, hb1⟩)
  all_goals (go_ret; exact ⟨ret_bool (idxF_any L p), hb1⟩)


theorem allCloT64_c (x : Int) (f : FuncId) (cap : Array Value) (g : Nat) (w : World) (r : Bool) (hc : w.cell? ⟨g, 0, none⟩ = some (.func (.func f) #[] cap)) (hg : g < w.heap.size)
    (hf : ∀ W, Below w.heap.size w W → Calls Tryz.prog f (#[.int .i64 x] ++ cap) W (Ret W (.bool r))) (hfn : Fun Tryz.prog f) :
    Calls Tryz.prog 198 #[.int .i64 x, .pointer (some ⟨g, 0, none⟩)] w (Ret w (.bool (!r))) := by
  have hcf := hfn.run
  have HF := Aside0.mk hf
  have hca : ∀ o, (w.alloc o).cell? ⟨g, 0, none⟩ = some (.func (.func f) #[] cap) := fun o => (World.cell?_alloc_lt w o _ hg).trans hc
  clear hf hfn
  go_enter Tryz.func198, Tryz.ntmps198
  go_wp2_with (refine (HF.out _ (by first | exact Below.refl _ _ | exact balloc (Below.refl _ _) _)).mono ?_; rintro _ w1 ⟨rfl, hb1⟩)
  all_goals (go_ret; exact ⟨rfl, by first | exact hb1 | exact bstep (balloc (Below.refl _ _) _) hb1⟩)
theorem areAllT64_c (A : Option Addr) (c : Nat) (L : List Int) (f : FuncId) (cap : Array Value) (p : Int → Bool) (w : World)
    (hL : (Kd.int .i64).C w A L.length L) (hfn : Fun Tryz.prog f)
    (hf : ∀ W, Below w.heap.size w W → ∀ x, x ∈ L → Calls Tryz.prog f (#[.int .i64 x] ++ cap) W (Ret W (.bool (p x)))) :
    Calls Tryz.prog 172 #[.slice A L.length c, .func (.func f) #[] cap] w (Ret w (.bool (L.all p))) := by
  have hcl : ∀ W, Below (w.alloc (.cells #[.func (.func f) #[] cap] 111)).heap.size (w.alloc (.cells #[.func (.func f) #[] cap] 111)) W → ∀ x, x ∈ L →
      Calls Tryz.prog 198 (#[.int .i64 x] ++ #[.pointer (some ⟨w.heap.size, 0, none⟩)]) W (Ret W (.bool (!(p x)))) := fun W hW x hx => by
    have h0 : W.cell? ⟨w.heap.size, 0, none⟩ = some (.func (.func f) #[] cap) := by
      rw [hW.cell (by simp)]; exact (blk_cell (blk_new w _) 0).trans rfl
    have hbW : Below w.heap.size w W := bstep (balloc (Below.refl _ _) _) hW
    exact allCloT64_c x f cap w.heap.size W (p x) h0 (by have := hW.size; simp at this; omega) (fun W' hW' => hf W' (bstep hbW hW') x hx) hfn
  have HI := Aside0.mk (containsFuncT64_c A c L 198 #[.pointer (some ⟨w.heap.size, 0, none⟩)] (fun x => !(p x)) (w.alloc (.cells #[.func (.func f) #[] cap] 111)) (Kd.C_alloc hL _) ⟨_, Tryz.func198, rfl, rfl⟩ hcl)
  clear hL hfn hf hcl
  go_enter Tryz.func172, Tryz.ntmps172
  go_wp2_with (go_at_call 197; refine HI.out.mono ?_; rintro _ w1 ⟨rfl, hb1⟩)
  all_goals (go_ret; exact ⟨ret_bool (by rw [List.all_eq_not_any_not]), bstep (balloc (Below.refl _ _) _) hb1⟩)

theorem ltClo_c (n : Int) (w : World) : Calls Tryz.prog 173 #[.int .i64 n] w (Ret w (.bool (inR n 0 60))) := by
  have HI := Aside0.mk (withinT64_c n 0 60 w)
  go_enter Tryz.func173, Tryz.ntmps173
  go_wp2_with (go_at_call 87; refine HI.out.mono ?_; rintro _ w1 ⟨rfl, rfl⟩)
  go_ret
  exact ⟨rfl, Below.refl _ _⟩
theorem withinL_c (n lo hi : Int) (w : World) : Calls Tryz.prog 109 #[.int .i64 n, .int .i64 lo, .int .i64 hi] w (RetS w (.bool (inR n lo hi))) := by
  go_enter Tryz.func109, Tryz.ntmps109
  go_wp2
  all_goals (go_ret; refine ⟨ret_bool ?_, rfl⟩; unfold inR; rw [Bool.eq_iff_iff]; simp; omega)
set_option maxHeartbeats 2000000 in
theorem isLayoutText_c (A : Option Addr) (c : Nat) (E : List Int) (w : World) (hE : (Kd.int .i64).C w A E.length E) : Calls Tryz.prog 136 #[.slice A E.length c] w (Ret w (.bool (plainE E))) := by
  have hm := Kd.C_max hE
  have HA := Aside0.mk (areAllT64_c A c E 173 #[] (fun x => inR x 0 60) w hE ⟨_, Tryz.func173, rfl, rfl⟩ (fun W _ x _ => ltClo_c x W))
  have HI := Aside0.mk (withinL_c (E.length : Int) 1 12 w)
  clear hE
  cases h : inR (E.length : Int) 1 12
  · have HV := Aside0.mk (show plainE E = false by unfold plainE; rw [h]; rfl)
    rw [h] at HI
    clear h
    go_enter Tryz.func136, Tryz.ntmps136
    go_wp2_with (go_at_call 109; refine HI.out.mono ?_; rintro _ w1 ⟨rfl, rfl⟩)
    go_ret
    exact ⟨ret_bool HV.out.symm, Below.refl _ _⟩
  · have HV := Aside0.mk (show plainE E = E.all (fun x => inR x 0 60) by unfold plainE; rw [h]; rfl)
    rw [h] at HI
    generalize E.all (fun x => inR x 0 60) = b at HV HA
    clear h
    go_enter Tryz.func136, Tryz.ntmps136
    go_wp2_with fail
    refine HI.out.mono ?_; rintro _ w1 ⟨rfl, rfl⟩
    go_wp2_with fail
    refine HA.out.mono ?_; rintro _ w2 ⟨rfl, hb2⟩
    go_wp2
    go_ret
    exact ⟨ret_bool HV.out.symm, hb2⟩
theorem lyT_next {E : List Int} {k : Nat} {x : Int} (h0 : 1 ≤ k) (hx : E[k]? = some x) : lyT (E.take (k + 1)) = lyT (E.take k) ++ 44 :: dg x := by
  unfold lyT
  have hl : k < E.length := (List.getElem?_eq_some_iff.1 hx).1
  rw [take_snoc hx, List.map_append]
  exact joinL_snoc 44 _ _ (by
    intro h
    have := congrArg List.length h
    rw [List.length_map, List.length_take, List.length_nil] at this
    omega)
theorem lyT_one {E : List Int} {x : Int} (hx : E[0]? = some x) : lyT (E.take 1) = dg x := by
  unfold lyT
  rw [show E.take 1 = E.take 0 ++ [x] from take_snoc hx]
  rfl
theorem PlE.take {E : List Int} (h : PlE E) {k : Nat} (h0 : 1 ≤ k) : PlE (E.take k) := ⟨by have := h.n; rw [List.length_take]; omega, fun x hx => h.x x (List.mem_of_mem_take hx)⟩
end Go.Proofs.YtgibcacciedobaaGreatDoor
end
section
/- The shelf's contracts for strconv.ParseInt at this dump, in plain words (laid by the kit's lay-shelf and lay-plain; pruned). No condition. -/
namespace Go.Proofs
open Go.Shelf
def Tryz.laysC174_ren : Go.Shelf.Ren := ⟨fun | 174 => 165 | 247 => 194 | 245 => 195 | 287 => 209 | 279 => 210 | 280 => 211 | 281 => 212 | 282 => 213 | 321 => 227 | 322 => 228 | 316 => 229 | 171 => 231 | 205 => 230 | 243 => 238 | 246 => 200 | 283 => 216 | 284 => 217 | 285 => 218 | 286 => 219 | 129 => 233 | 317 => 232 | 318 => 234 | 319 => 235 | 320 => 236 | 337 => 239 | 338 => 240 | n => n, fun | 9 => 9 | 3 => 3 | 2 => 2 | 75 => 175 | 85 => 181 | 4 => 4 | 167 => 210 | 5 => 5 | 53 => 151 | 175 => 211 | 46 => 191 | 168 => 213 | 37 => 22 | 0 => 0 | 210 => 228 | 21 => 21 | 127 => 200 | 145 => 244 | 143 => 242 | 171 => 219 | 173 => 222 | 212 => 231 | 51 => 232 | 20 => 20 | 213 => 233 | 232 => 246 | 233 => 247 | 80 => 178 | n => n, fun | 15 => 1 | 16 => 2 | 17 => 3 | 18 => 6 | 19 => 7 | n => n⟩
theorem Tryz.laysC174 : Go.Proofs.LaysC.n174 Tryz.prog Tryz.laysC174_ren := {
  mixed := by kernel_rfl
  f129 := Tryz.func233.trans (congrArg some (by kernel_rfl))
  f171 := Tryz.func231.trans (congrArg some (by kernel_rfl))
  f174 := Tryz.func165.trans (congrArg some (by kernel_rfl))
  f205 := Tryz.func230.trans (congrArg some (by kernel_rfl))
  f243 := Tryz.func238.trans (congrArg some (by kernel_rfl))
  f245 := Tryz.func195.trans (congrArg some (by kernel_rfl))
  f246 := Tryz.func200.trans (congrArg some (by kernel_rfl))
  f247 := Tryz.func194.trans (congrArg some (by kernel_rfl))
  f279 := Tryz.func210.trans (congrArg some (by kernel_rfl))
  f280 := Tryz.func211.trans (congrArg some (by kernel_rfl))
  f281 := Tryz.func212.trans (congrArg some (by kernel_rfl))
  f282 := Tryz.func213.trans (congrArg some (by kernel_rfl))
  f283 := Tryz.func216.trans (congrArg some (by kernel_rfl))
  f284 := Tryz.func217.trans (congrArg some (by kernel_rfl))
  f285 := Tryz.func218.trans (congrArg some (by kernel_rfl))
  f286 := Tryz.func219.trans (congrArg some (by kernel_rfl))
  f287 := Tryz.func209.trans (congrArg some (by kernel_rfl))
  f316 := Tryz.func229.trans (congrArg some (by kernel_rfl))
  f317 := Tryz.func232.trans (congrArg some (by kernel_rfl))
  f318 := Tryz.func234.trans (congrArg some (by kernel_rfl))
  f319 := Tryz.func235.trans (congrArg some (by kernel_rfl))
  f320 := Tryz.func236.trans (congrArg some (by kernel_rfl))
  f321 := Tryz.func227.trans (congrArg some (by kernel_rfl))
  f322 := Tryz.func228.trans (congrArg some (by kernel_rfl))
  f337 := Tryz.func239.trans (congrArg some (by kernel_rfl))
  f338 := Tryz.func240.trans (congrArg some (by kernel_rfl))
  t0 := Tryz.underlying0
  a0 := Tryz.isAgg0
  z0 := Tryz.sizeOf0
  v0 := Tryz.zeroValue0
  t2 := Tryz.underlying2
  a2 := Tryz.isAgg2
  z2 := Tryz.sizeOf2
  v2 := Tryz.zeroValue2
  t3 := Tryz.underlying3
  a3 := Tryz.isAgg3
  z3 := Tryz.sizeOf3
  v3 := Tryz.zeroValue3
  t4 := Tryz.underlying4
  a4 := Tryz.isAgg4
  z4 := Tryz.sizeOf4
  v4 := Tryz.zeroValue4
  t5 := Tryz.underlying5
  a5 := Tryz.isAgg5
  z5 := Tryz.sizeOf5
  v5 := Tryz.zeroValue5
  t9 := Tryz.underlying9
  a9 := Tryz.isAgg9
  z9 := Tryz.sizeOf9
  v9 := Tryz.zeroValue9
  t20 := Tryz.underlying20
  a20 := Tryz.isAgg20
  z20 := Tryz.sizeOf20
  v20 := Tryz.zeroValue20
  t21 := Tryz.underlying21
  a21 := Tryz.isAgg21
  z21 := Tryz.sizeOf21
  v21 := Tryz.zeroValue21
  t37 := Tryz.underlying22
  a37 := Tryz.isAgg22
  z37 := Tryz.sizeOf22
  v37 := Tryz.zeroValue22
  t46 := Tryz.underlying191
  a46 := Tryz.isAgg191
  z46 := Tryz.sizeOf191
  v46 := Tryz.zeroValue191
  t51 := Tryz.underlying232
  a51 := Tryz.isAgg232
  z51 := Tryz.sizeOf232
  v51 := Tryz.zeroValue232
  t53 := Tryz.underlying151
  a53 := Tryz.isAgg151
  z53 := Tryz.sizeOf151
  v53 := Tryz.zeroValue151
  t75 := Tryz.underlying175
  a75 := Tryz.isAgg175
  z75 := Tryz.sizeOf175
  v75 := Tryz.zeroValue175
  t85 := Tryz.underlying181
  a85 := Tryz.isAgg181
  z85 := Tryz.sizeOf181
  v85 := Tryz.zeroValue181
  t127 := Tryz.underlying200
  a127 := Tryz.isAgg200
  z127 := Tryz.sizeOf200
  v127 := Tryz.zeroValue200
  t143 := Tryz.underlying242
  a143 := Tryz.isAgg242
  z143 := Tryz.sizeOf242
  v143 := Tryz.zeroValue242
  t145 := Tryz.underlying244
  a145 := Tryz.isAgg244
  z145 := Tryz.sizeOf244
  v145 := Tryz.zeroValue244
  t167 := Tryz.underlying210
  a167 := Tryz.isAgg210
  z167 := Tryz.sizeOf210
  v167 := Tryz.zeroValue210
  t168 := Tryz.underlying213
  a168 := Tryz.isAgg213
  z168 := Tryz.sizeOf213
  v168 := Tryz.zeroValue213
  t171 := Tryz.underlying219
  a171 := Tryz.isAgg219
  z171 := Tryz.sizeOf219
  v171 := Tryz.zeroValue219
  t173 := Tryz.underlying222
  a173 := Tryz.isAgg222
  z173 := Tryz.sizeOf222
  v173 := Tryz.zeroValue222
  t175 := Tryz.underlying211
  a175 := Tryz.isAgg211
  z175 := Tryz.sizeOf211
  v175 := Tryz.zeroValue211
  t210 := Tryz.underlying228
  a210 := Tryz.isAgg228
  z210 := Tryz.sizeOf228
  v210 := Tryz.zeroValue228
  t212 := Tryz.underlying231
  a212 := Tryz.isAgg231
  z212 := Tryz.sizeOf231
  v212 := Tryz.zeroValue231
  t213 := Tryz.underlying233
  a213 := Tryz.isAgg233
  z213 := Tryz.sizeOf233
  t232 := Tryz.underlying246
  a232 := Tryz.isAgg246
  z232 := Tryz.sizeOf246
  v232 := Tryz.zeroValue246
  t233 := Tryz.underlying247
  a233 := Tryz.isAgg247
  z233 := Tryz.sizeOf247
  v233 := Tryz.zeroValue247
  g15 := by kernel_rfl
  g16 := by kernel_rfl
  g17 := by kernel_rfl
  g18 := by kernel_rfl
  g19 := by kernel_rfl
  t80 := Tryz.underlying178
  a80 := Tryz.isAgg178
  z80 := Tryz.sizeOf178
  v80 := Tryz.zeroValue178
  i0 := by kernel_rfl
  i2 := by kernel_rfl
  i3 := by kernel_rfl
  i4 := by kernel_rfl
  i5 := by kernel_rfl
  i9 := by kernel_rfl
  i20 := by kernel_rfl
  i21 := by kernel_rfl
  i37 := by kernel_rfl
  i46 := by kernel_rfl
  i51 := by kernel_rfl
  i53 := by kernel_rfl
  i75 := by kernel_rfl
  i80 := by kernel_rfl
  i85 := by kernel_rfl
  i127 := by kernel_rfl
  i143 := by kernel_rfl
  i145 := by kernel_rfl
  i167 := by kernel_rfl
  i168 := by kernel_rfl
  i171 := by kernel_rfl
  i173 := by kernel_rfl
  i175 := by kernel_rfl
  i210 := by kernel_rfl
  i212 := by kernel_rfl
  i232 := by kernel_rfl
  i233 := by kernel_rfl
  m15 := by kernel_rfl
  m16 := by kernel_rfl
  m17 := by kernel_rfl
  m18 := by kernel_rfl
  m19 := by kernel_rfl
  c0 := by kernel_rfl
  c2 := by kernel_rfl
  c3 := by kernel_rfl
  c4 := by kernel_rfl
  c5 := by kernel_rfl
  c9 := by kernel_rfl
  c20 := by kernel_rfl
  c21 := by kernel_rfl
  c37 := by kernel_rfl
  c46 := by kernel_rfl
  c51 := by kernel_rfl
  c53 := by kernel_rfl
  c75 := by kernel_rfl
  c80 := by kernel_rfl
  c85 := by kernel_rfl
  c127 := by kernel_rfl
  c143 := by kernel_rfl
  c145 := by kernel_rfl
  c167 := by kernel_rfl
  c168 := by kernel_rfl
  c171 := by kernel_rfl
  c173 := by kernel_rfl
  c175 := by kernel_rfl
  c210 := by kernel_rfl
  c212 := by kernel_rfl
  c213 := by kernel_rfl
  c232 := by kernel_rfl
  c233 := by kernel_rfl }
open Go.RowKit in
/-- A contract of the shelf at this dump. -/
theorem Tryz.strconv_ParseInt_10_at64_ok (s : ByteArray) (hmax : s.size ≤ 9223372036854775806) (v : Int) (h : Lib.parseIntB 64 s.data.toList = .ok v) (w : World) :
    Calls Tryz.prog 165 #[.string s, .int .i64 10, .int .i64 64] w fun e w' => e = .returned (.tuple #[.int .i64 v, .nilIface]) ∧ (w' = w ∨ ∃ t, w' = Lib.bytesWorld w 5 t) := Any.strconv_ParseInt_10_at64_ok Tryz.laysC174 s hmax v h w
open Go.RowKit in
/-- A contract of the shelf at this dump. -/
theorem Tryz.strconv_ParseInt_10_at64_syntax (s : ByteArray) (hlim : s.size ≤ 281474976710656) (h : Lib.parseIntB 64 s.data.toList = (Go.Lib.NumEnd.ofOption none)) (ev : Value) (w : World) (hv : w.cell? ⟨1, 0, none⟩ = some ev) (hev : ev = .nilIface ∨ ∃ te pe, ev = .iface te pe) :
    Calls Tryz.prog 165 #[.string s, .int .i64 10, .int .i64 64] w fun e w' => ∃ N, e = .returned (.tuple #[.int .i64 (0), .iface 213 (.pointer (some ⟨N, 0, none⟩))]) ∧ w.heap.size ≤ N ∧ w'.heap[N]? = some (.cells #[.string ⟨#[80, 97, 114, 115, 101, 73, 110, 116]⟩, .string s, ev] 228 (0, 0)) ∧ Below w.heap.size w w' := Any.strconv_ParseInt_10_at64_syntax Tryz.laysC174 s hlim h ev w hv hev
open Go.RowKit in
/-- A contract of the shelf at this dump. -/
theorem Tryz.strconv_ParseInt_10_at64_range (s : ByteArray) (hlim : s.size ≤ 281474976710656) (h : Lib.parseIntB 64 s.data.toList = .range) (ev : Value) (w : World) (hv : w.cell? ⟨2, 0, none⟩ = some ev) (hev : ev = .nilIface ∨ ∃ te pe, ev = .iface te pe) :
    Calls Tryz.prog 165 #[.string s, .int .i64 10, .int .i64 64] w fun e w' => ∃ N, e = .returned (.tuple #[.int .i64 (Lib.intSat 64 s.data.toList), .iface 213 (.pointer (some ⟨N, 0, none⟩))]) ∧ w.heap.size ≤ N ∧ w'.heap[N]? = some (.cells #[.string ⟨#[80, 97, 114, 115, 101, 73, 110, 116]⟩, .string s, ev] 228 (0, 0)) ∧ Below w.heap.size w w' := Any.strconv_ParseInt_10_at64_range Tryz.laysC174 s hlim h ev w hv hev
end Go.Proofs
end
