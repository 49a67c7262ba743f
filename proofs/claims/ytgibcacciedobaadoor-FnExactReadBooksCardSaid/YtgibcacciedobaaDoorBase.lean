/- Base words of this project: contracts' forms, flat kinds, reading a row by natural numbers. -/
import Derived.Test.YtgibcacciedobaaDoorWMore
import Derived.Test.YtgibcacciedobaaDoorProg
import Derived.KernelRfl
namespace Go.Proofs.YtgibcacciedobaaDoor
open Go.RowKit Go.Proofs.YtgibcacciedobaaDoorW.PrintWords Go.Proofs.YtgibcacciedobaaDoorW.PrintMore
set_option linter.unusedVariables false
set_option linter.unusedSimpArgs false

/-- It returned v; below the heap's size the world is as it was. -/
def Ret (w : World) (v : Value) (e : Ending) (w' : World) : Prop := e = .returned v ∧ Below w.heap.size w w'
/-- It returned v; the world is as it was. -/
def RetS (w : World) (v : Value) (e : Ending) (w' : World) : Prop := e = .returned v ∧ w = w'
/-- It returned a value of which Q holds in the world behind the call. -/
def RetQ (w : World) (Q : Value → World → Prop) (e : Ending) (w' : World) : Prop := ∃ v, e = .returned v ∧ Below w.heap.size w w' ∧ Q v w'
theorem RetS.ret {w : World} {v : Value} {e : Ending} {w' : World} (h : RetS w v e w') : Ret w v e w' := by
  obtain ⟨h1, rfl⟩ := h
  exact ⟨h1, Below.refl _ _⟩
theorem ret_bool {a b : Bool} (h : a = b) : Ending.returned (.bool a) = .returned (.bool b) := by rw [h]
theorem ret_int {k : IntKind} {a b : Int} (h : a = b) : Ending.returned (.int k a) = .returned (.int k b) := by rw [h]
/-- Below, from where the call began, and a step. -/
theorem bstep {w w1 w2 : World} (h : Below w.heap.size w w1) (k : Below w1.heap.size w1 w2) : Below w.heap.size w w2 := h.trans (k.mono h.size)
theorem balloc {w w1 : World} (h : Below w.heap.size w w1) (o : Obj) : Below w.heap.size w (w1.alloc o) := h.alloc h.size o
theorem bdrew {w w1 : World} (h : Below w.heap.size w w1) : Below w.heap.size w w1.drew := h.drew
theorem bdrewN {w w1 : World} (h : Below w.heap.size w w1) (n : Nat) : Below w.heap.size w (w1.drewN n) := pw_below_drewN h n

/-- What lay below reads as before: two rules for the walk. -/
theorem bcell {W w1 : World} (hb : Below W.heap.size W w1) : (∀ b o, b < W.heap.size → w1.cell? ⟨b, o, none⟩ = W.cell? ⟨b, o, none⟩) ∧ (∀ b o, b < W.heap.size → w1.frozen? ⟨b, o, none⟩ = W.frozen? ⟨b, o, none⟩) :=
  ⟨fun b o h => hb.cell (p := ⟨b, o, none⟩) h, fun b o h => hb.frozen (p := ⟨b, o, none⟩) h⟩

/-- A function of the program that has a body. -/
def Fun (P : Program) (f : FuncId) : Prop := ∃ fn, P.funcs[f]? = some fn ∧ (fn.name == "runtime.NumGoroutine") = false ∧ fn.body.isSome = true
theorem Fun.run {P : Program} {f : FuncId} (h : Fun P f) (args : Array Value) (w : World) : (callFunc f args).run P w = .ok (.enter f args) w := by
  obtain ⟨fn, hf, hn, hb⟩ := h
  exact Go.Proofs.YtgibcacciedobaaDoorW.PrintLast.enters_ hf hn hb args w

namespace Kd
/-- Elements of a fixed number of cells, none of which leads anywhere. -/
def flat {α : Type} (enc : α → List Value) (n : Nat) (hl : ∀ x, (enc x).length = n) (h1 : ∀ x u, u ∈ enc x → u.oneCell' = true) : Kd α where
  sz := n
  E := []
  K := fun _ x cs => cs = enc x
  M := fun _ _ _ x cs => cs = enc x
  K_len := fun h => by rw [h, hl]
  K_one := fun h u hu => by rw [h] at hu; exact h1 _ u hu
  K_below := fun _ h => h
  K_of_M := fun h => h
  M_mono := fun _ h => h
  M_bound := fun h => h
  M_move := fun _ h => h
  M_lower := fun _ h => h
end Kd

theorem at_int' {k : IntKind} {xs : List Int} {w : World} {A : Option Addr} {n : Nat} (h : (Kd.int k).C w A n xs) (i : Nat) (hi : i < n) :
    ∃ ad x, A = some ad ∧ Aside0 (xs[i]? = some x) ∧ w.cell? (ad.add i) = some (.int k x) := by
  obtain ⟨ad, e, hx⟩ := Kd.at_int h i (by omega) (by omega)
  have hl : i < xs.length := by have := Kd.C_len h; omega
  refine ⟨ad, xs[i], e, ⟨List.getElem?_eq_getElem hl⟩, ?_⟩
  rw [Int.toNat_natCast] at hx
  rw [hx]
  simp [rd, List.getD_eq_getElem?_getD, List.getElem?_eq_getElem hl]

theorem mem_of {α : Type} {L : List α} {i : Nat} {x : α} (h : L[i]? = some x) : x ∈ L := List.mem_of_getElem? h
theorem take_snoc {α : Type} {L : List α} {i : Nat} {x : α} (h : L[i]? = some x) : L.take (i + 1) = L.take i ++ [x] := by
  rw [List.take_add_one, h]; rfl

/-- the index of the first element with p, or -1 -/
def idxF {α : Type} (L : List α) (p : α → Bool) : Int := if L.any p then (L.findIdx p : Nat) else -1
theorem idxF_hit {α : Type} {L : List α} {p : α → Bool} {k : Nat} {x : α} (h0 : ∀ y, y ∈ L.take k → p y = false) (hx : L[k]? = some x) (hp : p x = true) : idxF L p = (k : Int) := by
  have hl : k < L.length := (List.getElem?_eq_some_iff.1 hx).1
  have hxe : L[k] = x := (List.getElem?_eq_some_iff.1 hx).2
  have ha : L.any p = true := List.any_eq_true.2 ⟨x, mem_of hx, hp⟩
  unfold idxF
  rw [if_pos ha]
  congr 1
  rw [List.findIdx_eq hl]
  refine ⟨by rw [hxe]; exact hp, fun j hj => ?_⟩
  exact h0 _ (List.mem_take_iff_getElem.2 ⟨j, by omega, rfl⟩)
theorem idxF_none {α : Type} {L : List α} {p : α → Bool} (h0 : ∀ y, y ∈ L → p y = false) : idxF L p = -1 := by
  unfold idxF
  rw [if_neg]
  intro h
  obtain ⟨x, hx, hp⟩ := List.any_eq_true.1 h
  rw [h0 x hx] at hp
  cases hp
theorem idxF_any {α : Type} (L : List α) (p : α → Bool) : decide (0 ≤ idxF L p) = L.any p := by
  unfold idxF
  by_cases h : L.any p = true
  · rw [if_pos h, h]; simp
  · rw [if_neg h]; simp at h ⊢; exact h

def inR (n lo hi : Int) : Bool := decide (lo ≤ n) && decide (n ≤ hi)
theorem inR_iff {n lo hi : Int} : inR n lo hi = true ↔ lo ≤ n ∧ n ≤ hi := by simp [inR]

/-- A book. -/
structure Bk where
  c : Int
  m0 : Int
  m1 : Int
  m2 : Int
  v : Int
  wd : Int
  h : Int
  wt : Int
deriving DecidableEq
def Bk.cells (b : Bk) : List Value := [.int .i16 b.c, .int .u8 b.m0, .int .u8 b.m1, .int .u8 b.m2, .int .i16 b.v, .int .i16 b.wd, .int .i16 b.h, .int .i16 b.wt]
def Bk.val (b : Bk) : Value := .agg #[.int .i16 b.c, .int .u8 b.m0, .int .u8 b.m1, .int .u8 b.m2, .int .i16 b.v, .int .i16 b.wd, .int .i16 b.h, .int .i16 b.wt]
/-- The numbers are of their kinds. -/
def I16 (x : Int) : Prop := -32768 ≤ x ∧ x ≤ 32767
def U8 (x : Int) : Prop := 0 ≤ x ∧ x ≤ 255
def Bk.ok (b : Bk) : Prop := I16 b.c ∧ U8 b.m0 ∧ U8 b.m1 ∧ U8 b.m2 ∧ I16 b.v ∧ I16 b.wd ∧ I16 b.h ∧ I16 b.wt
def kBk : Kd Bk := Kd.flat Bk.cells 8 (fun _ => rfl) (fun x u hu => by
  simp only [Bk.cells, List.mem_cons, List.not_mem_nil, or_false] at hu
  rcases hu with rfl | rfl | rfl | rfl | rfl | rfl | rfl | rfl <;> rfl)
theorem addf (ad : Addr) (m j : Nat) (hj : 0 < j) : ad.add (m + j) = ⟨(ad.add m).block, (ad.add m).off + j, none⟩ := add_field ad m j hj
/-- Element i of a row of books: its cells as a field's load finds them. -/
theorem at_bk {xs : List Bk} {w : World} {A : Option Addr} {n : Nat} (h : kBk.C w A n xs) (i : Nat) (hi : i < n) :
    ∃ ad b, A = some ad ∧ Aside0 (xs[i]? = some b) ∧ w.cell? (ad.add (i * 8)) = some (.int .i16 b.c) ∧
      w.cell? ⟨(ad.add (i * 8)).block, (ad.add (i * 8)).off + 1, none⟩ = some (.int .u8 b.m0) ∧
      w.cell? ⟨(ad.add (i * 8)).block, (ad.add (i * 8)).off + 2, none⟩ = some (.int .u8 b.m1) ∧
      w.cell? ⟨(ad.add (i * 8)).block, (ad.add (i * 8)).off + 3, none⟩ = some (.int .u8 b.m2) ∧
      w.cell? ⟨(ad.add (i * 8)).block, (ad.add (i * 8)).off + 4, none⟩ = some (.int .i16 b.v) ∧
      w.cell? ⟨(ad.add (i * 8)).block, (ad.add (i * 8)).off + 5, none⟩ = some (.int .i16 b.wd) ∧
      w.cell? ⟨(ad.add (i * 8)).block, (ad.add (i * 8)).off + 6, none⟩ = some (.int .i16 b.h) ∧
      w.cell? ⟨(ad.add (i * 8)).block, (ad.add (i * 8)).off + 7, none⟩ = some (.int .i16 b.wt) := by
  have hl : i < xs.length := by have := Kd.C_len h; omega
  obtain ⟨ad, c, e, hc, hK, hcc⟩ := Kd.C_get h xs[i] i (by omega) (by omega)
  rw [Int.toNat_natCast] at hK hcc
  have hx : xs.getD i xs[i] = xs[i] := by simp [List.getD_eq_getElem?_getD, List.getElem?_eq_getElem hl]
  rw [hx] at hK
  have hK' : c = Bk.cells xs[i] := hK
  subst hK'
  have hcc' : ∀ j u, (Bk.cells xs[i])[j]? = some u → w.cell? (ad.add (i * 8 + j)) = some u := hcc
  refine ⟨ad, xs[i], e, ⟨List.getElem?_eq_getElem hl⟩, hcc' 0 _ rfl, ?_, ?_, ?_, ?_, ?_, ?_, ?_⟩ <;>
    (rw [← addf _ _ _ (by omega)]; exact hcc' _ _ rfl)
/-- A book lies at an address. -/
structure BkAt (w : World) (a : Addr) (b : Bk) : Prop where
  c0 : w.cell? a = some (.int .i16 b.c)
  c1 : w.cell? ⟨a.block, a.off + 1, none⟩ = some (.int .u8 b.m0)
  c2 : w.cell? ⟨a.block, a.off + 2, none⟩ = some (.int .u8 b.m1)
  c3 : w.cell? ⟨a.block, a.off + 3, none⟩ = some (.int .u8 b.m2)
  c4 : w.cell? ⟨a.block, a.off + 4, none⟩ = some (.int .i16 b.v)
  c5 : w.cell? ⟨a.block, a.off + 5, none⟩ = some (.int .i16 b.wd)
  c6 : w.cell? ⟨a.block, a.off + 6, none⟩ = some (.int .i16 b.h)
  c7 : w.cell? ⟨a.block, a.off + 7, none⟩ = some (.int .i16 b.wt)
theorem BkAt.lt {w : World} {a : Addr} {b : Bk} (h : BkAt w a b) : a.block < w.heap.size := World.block_lt_of_cell? w a h.c0
theorem BkAt.below {w w1 : World} {a : Addr} {b : Bk} (h : BkAt w a b) (hb : Below w.heap.size w w1) : BkAt w1 a b :=
  ⟨(hb.cell (p := a) h.lt).trans h.c0, (hb.cell (p := ⟨a.block, a.off + 1, none⟩) h.lt).trans h.c1, (hb.cell (p := ⟨a.block, a.off + 2, none⟩) h.lt).trans h.c2, (hb.cell (p := ⟨a.block, a.off + 3, none⟩) h.lt).trans h.c3,
   (hb.cell (p := ⟨a.block, a.off + 4, none⟩) h.lt).trans h.c4, (hb.cell (p := ⟨a.block, a.off + 5, none⟩) h.lt).trans h.c5, (hb.cell (p := ⟨a.block, a.off + 6, none⟩) h.lt).trans h.c6, (hb.cell (p := ⟨a.block, a.off + 7, none⟩) h.lt).trans h.c7⟩
theorem BkAt.box (w : World) (b : Bk) (t : TypeId) : BkAt (w.alloc (.cells #[.int .i16 b.c, .int .u8 b.m0, .int .u8 b.m1, .int .u8 b.m2, .int .i16 b.v, .int .i16 b.wd, .int .i16 b.h, .int .i16 b.wt] t)) ⟨w.heap.size, 0, none⟩ b :=
  ⟨(blk_cell (blk_new w _) 0).trans rfl, (blk_cell (blk_new w _) 1).trans rfl, (blk_cell (blk_new w _) 2).trans rfl, (blk_cell (blk_new w _) 3).trans rfl, (blk_cell (blk_new w _) 4).trans rfl, (blk_cell (blk_new w _) 5).trans rfl, (blk_cell (blk_new w _) 6).trans rfl, (blk_cell (blk_new w _) 7).trans rfl⟩
theorem at_bk' {xs : List Bk} {w : World} {A : Option Addr} {n : Nat} (h : kBk.C w A n xs) (i : Nat) (hi : i < n) :
    ∃ ad b, A = some ad ∧ Aside0 (xs[i]? = some b) ∧ BkAt w (ad.add (i * 8)) b := by
  obtain ⟨ad, b, e, hb, h0, h1, h2, h3, h4, h5, h6, h7⟩ := at_bk h i hi
  exact ⟨ad, b, e, hb, h0, h1, h2, h3, h4, h5, h6, h7⟩
end Go.Proofs.YtgibcacciedobaaDoor
