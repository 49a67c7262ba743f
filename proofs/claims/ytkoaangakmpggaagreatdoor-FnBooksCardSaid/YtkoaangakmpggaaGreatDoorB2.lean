/- Texts of this proof that belong together: Seat, Base, To, Mem, ToS, Row, Own, Scal, MarkB, All, Book, Cmp, CmpB, CmpC, CmpD, Srt, Ord, RowIs, Ins, Mrg, Clone, Stb, SpecBook, CmpS. No condition. -/
import Derived.Test.YtkoaangakmpggaaGreatDoorB1
import Derived.Test.YtkoaangakmpggaaGreatDoorRows
import Derived.JoinedOf
import Derived.Test.YtkoaangakmpggaaGreatDoorProg
import Derived.KernelRfl
import Derived.StillTailTactics
import Derived.Still
import Derived.Deep.QuietTactic
import Derived.BigQuiet
import Derived.BigRegion
import Derived.RegionTactic
import Derived.ChangeAlike
import Derived.WalkArith
import Derived.WalkSpells
section
/- The dump's head, read once as a list of signs: three closed facts of every row of this seat lean on it. No condition. -/
namespace Go.Proofs.YtkoaangakmpggaaGreatDoor
abbrev c (n : Nat) : Char := Char.ofNat n
theorem toList_of (l : List Char) (s : String) (h : s = String.ofList l) : s.toList = l := by rw [h, String.toList_ofList]
def headSigns : List Char := [
c 104, c 97, c 114, c 110, c 101, c 115, c 115, c 32, c 54, c 99, c 56, c 57, c 101, c 98, c 56, c 50, c 100, c 101, c 48, c 97, c 49, c 97, c 98, 
c 102, c 53, c 57, c 57, c 57, c 48, c 102, c 50, c 54, c 51, c 101, c 50, c 49, c 56, c 54, c 49, c 48, c 100, c 51, c 100, c 53, c 100, c 49, c 55, 
c 102, c 48, c 49, c 102, c 97, c 50, c 54, c 99, c 52, c 100, c 57, c 50, c 51, c 49, c 57, c 100, c 51, c 49, c 57, c 50, c 55, c 48, c 99, c 52, 
c 51, c 32, c 99, c 117, c 116, c 32, c 97, c 116, c 32, c 108, c 111, c 111, c 112, c 46, c 101, c 120, c 97, c 109, c 112, c 108, c 101, c 47, c 103, 
c 48, c 49, c 51, c 50, c 54, c 47, c 108, c 97, c 119, c 115, c 46, c 70, c 110, c 66, c 111, c 111, c 107, c 115]
set_option maxRecDepth 100000 in
theorem head_signs : Tryz.prog.initOrder.toList = headSigns := toList_of _ _ (by unfold headSigns; kernel_rfl)
theorem words_ : ∃ rest, behindMainWord (wordsSigns Tryz.prog.initOrder.toList) = "cut".toList :: rest := by
  rw [head_signs]
  exact ⟨(behindMainWord (wordsSigns headSigns)).tail, by kernel_rfl⟩
theorem strip_cut (rest : List (List Char)) : stripLifts liftWords ("cut".toList :: rest) = ([], "cut".toList :: rest) := by kernel_rfl
theorem mayEnter_gen (P : Program) (rest : List (List Char)) (h : behindMainWord (wordsSigns P.initOrder.toList) = "cut".toList :: rest) (h1 : P.laysLater = false) (h2 : P.bearsReflect = false) (h3 : P.doorFits [] = true) : P.mayEnter = true := by
  unfold Program.mayEnter
  rw [h]
  simp only [strip_cut, h1, h2, h3]
  kernel_rfl
theorem headLifts_gen (P : Program) (rest : List (List Char)) (h : behindMainWord (wordsSigns P.initOrder.toList) = "cut".toList :: rest) : P.headLifts = [] := by
  unfold Program.headLifts
  rw [h]
  simp only [strip_cut]
  kernel_rfl
theorem liftsFinal_gen (P : Program) (rest : List (List Char)) (h : behindMainWord (wordsSigns P.initOrder.toList) = "cut".toList :: rest) : P.liftsFinal = false := by
  unfold Program.liftsFinal
  rw [h, headLifts_gen P rest h]
  kernel_rfl
theorem make_gen (P : Program) (rest : List (List Char)) (h : behindMainWord (wordsSigns P.initOrder.toList) = "cut".toList :: rest) : P.make = some .cut := by
  unfold Program.make
  rw [h, headLifts_gen P rest h]
  kernel_rfl
theorem laysLater_ : Tryz.prog.laysLater = false := by kernel_rfl
theorem bearsReflect_ : Tryz.prog.bearsReflect = false := by kernel_rfl
theorem doorFits_ : Tryz.prog.doorFits [] = true := by kernel_rfl
theorem mayEnter_ : Tryz.prog.mayEnter = true := words_.elim fun rest h => mayEnter_gen _ rest h laysLater_ bearsReflect_ doorFits_
theorem liftsFinal_ : Tryz.prog.liftsFinal = false := words_.elim fun rest h => liftsFinal_gen _ rest h
theorem make_ : Tryz.prog.make = some .cut := words_.elim fun rest h => make_gen _ rest h
/-- The closed facts of a row, the three on the head apart. -/
theorem facts_of (P : Program) (f : FuncId) (fn : Func) (s : ChangeSpec) (c : OpenClaim) (m1 : P.mayEnter = true) (m2 : P.liftsFinal = false) (m3 : P.make = some .cut) (hl : c.lifted = false) (hm : c.make = .cut)
    (k1 : (c.wf (OpenSpec.ofChange s) && laidOutB P && mapsRowed P && fn.params.all (P.readableRec ·) && namedTie P c.named s.vars && (c.stops == []) && (P.stops == []) && (c.knobs == []) && (P.stopKnobs == [])) = true)
    (k2 : (c.inPlace == P.inPlace f) = true) (k3 : (c.unfollowed == P.unfollowed f) = true) (k4 : (c.recurses == P.recurses f) = true) (k5 : (c.named == P.varsNamed f) = true)
    (k6 : (c.maps == (fn.params.toList ++ s.plain.varTypes P).any (P.mapsRec ·)) = true) (k7 : (c.ifaces == (fn.params.toList ++ s.plain.varTypes P).any (P.ifacesRec ·)) = true) (k8 : (c.mapsOut == P.mapsAmong fn.resultTypes.toList) = true)
    (k9 : (c.loops == (fn.params.toList ++ s.plain.varTypes P).any (P.loopsFrom ·)) = true) (k10 : (c.wideKeys == (fn.params.toList ++ s.plain.varTypes P ++ fn.resultTypes.toList).any (P.wideKeysFrom ·)) = true)
    (k11 : s.vars.all (P.varReadable ·) = true) (k12 : fn.resultTypes.all (fun t => P.readableRec t && decide (t < P.types.size)) = true) (k13 : (c.ifacesOut == fn.resultTypes.toList.any (P.ifacesRec ·)) = true) (k14 : (c.loopsOut == fn.resultTypes.toList.any (P.loopsFrom ·)) = true)
    (k15 : (c.plainKeys == P.plainKeys) = true) (k16 : c.shortTexts.isNone = true) (k17 : P.stopsHeard = true)
    (k18 : (c.kinds == (if c.domain.isEmpty then [] else fn.params.toList.map fun t => match P.underlying t with | some (.int k) => some k | _ => none)) = true) (k19 : (c.pinned == c.pinnedBy) = true)
    (k20 : (c.veiled == (fn.params.toList ++ s.plain.varTypes P ++ fn.resultTypes.toList).any (P.veiledRec ·)) = true) (k21 : c.veiledFits P fn.params.toList (fn.params.toList ++ s.plain.varTypes P ++ fn.resultTypes.toList) = true) : joinedFacts P f fn s c = true := by
  have e2 : (c.lifted == P.liftsFinal) = true := by rw [m2, hl]; rfl
  have e3 : (P.make == some c.make) = true := by rw [m3, hm]; kernel_rfl
  unfold joinedFacts
  simp only [Bool.and_eq_true] at k1 ⊢
  obtain ⟨⟨⟨⟨⟨⟨⟨⟨a1, a2⟩, a3⟩, a4⟩, a5⟩, a6⟩, a7⟩, a8⟩, a9⟩ := k1
  exact ⟨⟨⟨⟨⟨⟨⟨⟨⟨⟨⟨⟨⟨⟨⟨⟨⟨⟨⟨⟨⟨⟨⟨⟨⟨⟨⟨⟨⟨⟨⟨a1, a2⟩, a3⟩, a4⟩, a5⟩, a6⟩, a7⟩, a8⟩, a9⟩, k2⟩, k3⟩, k4⟩, k5⟩, k6⟩, k7⟩, k8⟩, k9⟩, k10⟩, k11⟩, k12⟩, k13⟩, k14⟩, k15⟩, k16⟩, k17⟩, m1⟩, e2⟩, e3⟩, k18⟩, k19⟩, k20⟩, k21⟩
end Go.Proofs.YtkoaangakmpggaaGreatDoor
end
section
/- Base words of this project: contracts' forms, flat kinds, reading a row by natural numbers. -/
namespace Go.Proofs.YtkoaangakmpggaaGreatDoor
open Go.RowKit Go.Proofs.YtkoaangakmpggaaGreatDoorW.PrintWords Go.Proofs.YtkoaangakmpggaaGreatDoorW.PrintMore
set_option linter.unusedVariables false
set_option linter.unusedSimpArgs false

/-- It returned v; below the heap's size the world is as it was. -/
def Ret (w : World) (v : Value) (e : Ending) (w' : World) : Prop := e = .returned v ∧ Below w.heap.size w w'
/-- It returned v; the world is as it was. -/
def RetS (w : World) (v : Value) (e : Ending) (w' : World) : Prop := e = .returned v ∧ w = w'
/-- It returned a value of which Q holds in the world behind the call. -/
def RetQ (w : World) (Q : Value → World → Prop) (e : Ending) (w' : World) : Prop := ∃ v, e = .returned v ∧ Below w.heap.size w w' ∧ Q v w'
theorem RetS.ret {w : World} {v : Value} {e : Ending} {w' : World} (h : RetS w v e w') : Ret w v e w' := by
  obtain ⟨h1, rfl⟩ := h
  exact ⟨h1, Below.refl _ _⟩
theorem ret_bool {a b : Bool} (h : a = b) : Ending.returned (.bool a) = .returned (.bool b) := by rw [h]
theorem ret_int {k : IntKind} {a b : Int} (h : a = b) : Ending.returned (.int k a) = .returned (.int k b) := by rw [h]
/-- Below, from where the call began, and a step. -/
theorem bstep {w w1 w2 : World} (h : Below w.heap.size w w1) (k : Below w1.heap.size w1 w2) : Below w.heap.size w w2 := h.trans (k.mono h.size)
theorem balloc {w w1 : World} (h : Below w.heap.size w w1) (o : Obj) : Below w.heap.size w (w1.alloc o) := h.alloc h.size o
theorem bdrew {w w1 : World} (h : Below w.heap.size w w1) : Below w.heap.size w w1.drew := h.drew
theorem bdrewN {w w1 : World} (h : Below w.heap.size w w1) (n : Nat) : Below w.heap.size w (w1.drewN n) := pw_below_drewN h n

/-- What lay below reads as before: two rules for the walk. -/
theorem bcell {W w1 : World} (hb : Below W.heap.size W w1) : (∀ b o, b < W.heap.size → w1.cell? ⟨b, o, none⟩ = W.cell? ⟨b, o, none⟩) ∧ (∀ b o, b < W.heap.size → w1.frozen? ⟨b, o, none⟩ = W.frozen? ⟨b, o, none⟩) :=
  ⟨fun b o h => hb.cell (p := ⟨b, o, none⟩) h, fun b o h => hb.frozen (p := ⟨b, o, none⟩) h⟩

/-- A function of the program that has a body. -/
def Fun (P : Program) (f : FuncId) : Prop := ∃ fn, P.funcs[f]? = some fn ∧ (fn.name == "runtime.NumGoroutine") = false ∧ fn.body.isSome = true
theorem Fun.run {P : Program} {f : FuncId} (h : Fun P f) (args : Array Value) (w : World) : (callFunc f args).run P w = .ok (.enter f args) w := by
  obtain ⟨fn, hf, hn, hb⟩ := h
  exact Go.Proofs.YtkoaangakmpggaaGreatDoorW.PrintLast.enters_ hf hn hb args w

namespace Kd
/-- Elements of a fixed number of cells, none of which leads anywhere. -/
def flat {α : Type} (enc : α → List Value) (n : Nat) (hl : ∀ x, (enc x).length = n) (h1 : ∀ x u, u ∈ enc x → u.oneCell' = true) : Kd α where
  sz := n
  E := []
  K := fun _ x cs => cs = enc x
  M := fun _ _ _ x cs => cs = enc x
  K_len := fun h => by rw [h, hl]
  K_one := fun h u hu => by rw [h] at hu; exact h1 _ u hu
  K_below := fun _ h => h
  K_of_M := fun h => h
  M_mono := fun _ h => h
  M_bound := fun h => h
  M_move := fun _ h => h
  M_lower := fun _ h => h
end Kd

theorem at_int' {k : IntKind} {xs : List Int} {w : World} {A : Option Addr} {n : Nat} (h : (Kd.int k).C w A n xs) (i : Nat) (hi : i < n) :
    ∃ ad x, A = some ad ∧ Aside0 (xs[i]? = some x) ∧ w.cell? (ad.add i) = some (.int k x) := by
  obtain ⟨ad, e, hx⟩ := Kd.at_int h i (by omega) (by omega)
  have hl : i < xs.length := by have := Kd.C_len h; omega
  refine ⟨ad, xs[i], e, ⟨List.getElem?_eq_getElem hl⟩, ?_⟩
  rw [Int.toNat_natCast] at hx
  rw [hx]
  simp [rd, List.getD_eq_getElem?_getD, List.getElem?_eq_getElem hl]

theorem mem_of {α : Type} {L : List α} {i : Nat} {x : α} (h : L[i]? = some x) : x ∈ L := List.mem_of_getElem? h
theorem take_snoc {α : Type} {L : List α} {i : Nat} {x : α} (h : L[i]? = some x) : L.take (i + 1) = L.take i ++ [x] := by
  rw [List.take_add_one, h]; rfl

/-- the index of the first element with p, or -1 -/
def idxF {α : Type} (L : List α) (p : α → Bool) : Int := if L.any p then (L.findIdx p : Nat) else -1
theorem idxF_hit {α : Type} {L : List α} {p : α → Bool} {k : Nat} {x : α} (h0 : ∀ y, y ∈ L.take k → p y = false) (hx : L[k]? = some x) (hp : p x = true) : idxF L p = (k : Int) := by
  have hl : k < L.length := (List.getElem?_eq_some_iff.1 hx).1
  have hxe : L[k] = x := (List.getElem?_eq_some_iff.1 hx).2
  have ha : L.any p = true := List.any_eq_true.2 ⟨x, mem_of hx, hp⟩
  unfold idxF
  rw [if_pos ha]
  congr 1
  rw [List.findIdx_eq hl]
  refine ⟨by rw [hxe]; exact hp, fun j hj => ?_⟩
  exact h0 _ (List.mem_take_iff_getElem.2 ⟨j, by omega, rfl⟩)
theorem idxF_none {α : Type} {L : List α} {p : α → Bool} (h0 : ∀ y, y ∈ L → p y = false) : idxF L p = -1 := by
  unfold idxF
  rw [if_neg]
  intro h
  obtain ⟨x, hx, hp⟩ := List.any_eq_true.1 h
  rw [h0 x hx] at hp
  cases hp
theorem idxF_any {α : Type} (L : List α) (p : α → Bool) : decide (0 ≤ idxF L p) = L.any p := by
  unfold idxF
  by_cases h : L.any p = true
  · rw [if_pos h, h]; simp
  · rw [if_neg h]; simp at h ⊢; exact h

def inR (n lo hi : Int) : Bool := decide (lo ≤ n) && decide (n ≤ hi)
theorem inR_iff {n lo hi : Int} : inR n lo hi = true ↔ lo ≤ n ∧ n ≤ hi := by simp [inR]

/-- A book. -/
structure Bk where
  c : Int
  m0 : Int
  m1 : Int
  m2 : Int
  v : Int
  wd : Int
  h : Int
  wt : Int
deriving DecidableEq
def Bk.cells (b : Bk) : List Value := [.int .i16 b.c, .int .u8 b.m0, .int .u8 b.m1, .int .u8 b.m2, .int .i16 b.v, .int .i16 b.wd, .int .i16 b.h, .int .i16 b.wt]
def Bk.val (b : Bk) : Value := .agg #[.int .i16 b.c, .int .u8 b.m0, .int .u8 b.m1, .int .u8 b.m2, .int .i16 b.v, .int .i16 b.wd, .int .i16 b.h, .int .i16 b.wt]
/-- The numbers are of their kinds. -/
def I16 (x : Int) : Prop := -32768 ≤ x ∧ x ≤ 32767
def U8 (x : Int) : Prop := 0 ≤ x ∧ x ≤ 255
def Bk.ok (b : Bk) : Prop := I16 b.c ∧ U8 b.m0 ∧ U8 b.m1 ∧ U8 b.m2 ∧ I16 b.v ∧ I16 b.wd ∧ I16 b.h ∧ I16 b.wt
def kBk : Kd Bk := Kd.flat Bk.cells 8 (fun _ => rfl) (fun x u hu => by
  simp only [Bk.cells, List.mem_cons, List.not_mem_nil, or_false] at hu
  rcases hu with rfl | rfl | rfl | rfl | rfl | rfl | rfl | rfl <;> rfl)
theorem addf (ad : Addr) (m j : Nat) (hj : 0 < j) : ad.add (m + j) = ⟨(ad.add m).block, (ad.add m).off + j, none⟩ := add_field ad m j hj
/-- Element i of a row of books: its cells as a field's load finds them. -/
theorem at_bk {xs : List Bk} {w : World} {A : Option Addr} {n : Nat} (h : kBk.C w A n xs) (i : Nat) (hi : i < n) :
    ∃ ad b, A = some ad ∧ Aside0 (xs[i]? = some b) ∧ w.cell? (ad.add (i * 8)) = some (.int .i16 b.c) ∧
      w.cell? ⟨(ad.add (i * 8)).block, (ad.add (i * 8)).off + 1, none⟩ = some (.int .u8 b.m0) ∧
      w.cell? ⟨(ad.add (i * 8)).block, (ad.add (i * 8)).off + 2, none⟩ = some (.int .u8 b.m1) ∧
      w.cell? ⟨(ad.add (i * 8)).block, (ad.add (i * 8)).off + 3, none⟩ = some (.int .u8 b.m2) ∧
      w.cell? ⟨(ad.add (i * 8)).block, (ad.add (i * 8)).off + 4, none⟩ = some (.int .i16 b.v) ∧
      w.cell? ⟨(ad.add (i * 8)).block, (ad.add (i * 8)).off + 5, none⟩ = some (.int .i16 b.wd) ∧
      w.cell? ⟨(ad.add (i * 8)).block, (ad.add (i * 8)).off + 6, none⟩ = some (.int .i16 b.h) ∧
      w.cell? ⟨(ad.add (i * 8)).block, (ad.add (i * 8)).off + 7, none⟩ = some (.int .i16 b.wt) := by
  have hl : i < xs.length := by have := Kd.C_len h; omega
  obtain ⟨ad, c, e, hc, hK, hcc⟩ := Kd.C_get h xs[i] i (by omega) (by omega)
  rw [Int.toNat_natCast] at hK hcc
  have hx : xs.getD i xs[i] = xs[i] := by simp [List.getD_eq_getElem?_getD, List.getElem?_eq_getElem hl]
  rw [hx] at hK
  have hK' : c = Bk.cells xs[i] := hK
  subst hK'
  have hcc' : ∀ j u, (Bk.cells xs[i])[j]? = some u → w.cell? (ad.add (i * 8 + j)) = some u := hcc
  refine ⟨ad, xs[i], e, ⟨List.getElem?_eq_getElem hl⟩, hcc' 0 _ rfl, ?_, ?_, ?_, ?_, ?_, ?_, ?_⟩ <;>
    (rw [← addf _ _ _ (by omega)]; exact hcc' _ _ rfl)
/-- A book lies at an address. -/
structure BkAt (w : World) (a : Addr) (b : Bk) : Prop where
  c0 : w.cell? a = some (.int .i16 b.c)
  c1 : w.cell? ⟨a.block, a.off + 1, none⟩ = some (.int .u8 b.m0)
  c2 : w.cell? ⟨a.block, a.off + 2, none⟩ = some (.int .u8 b.m1)
  c3 : w.cell? ⟨a.block, a.off + 3, none⟩ = some (.int .u8 b.m2)
  c4 : w.cell? ⟨a.block, a.off + 4, none⟩ = some (.int .i16 b.v)
  c5 : w.cell? ⟨a.block, a.off + 5, none⟩ = some (.int .i16 b.wd)
  c6 : w.cell? ⟨a.block, a.off + 6, none⟩ = some (.int .i16 b.h)
  c7 : w.cell? ⟨a.block, a.off + 7, none⟩ = some (.int .i16 b.wt)
theorem BkAt.lt {w : World} {a : Addr} {b : Bk} (h : BkAt w a b) : a.block < w.heap.size := World.block_lt_of_cell? w a h.c0
theorem BkAt.below {w w1 : World} {a : Addr} {b : Bk} (h : BkAt w a b) (hb : Below w.heap.size w w1) : BkAt w1 a b :=
  ⟨(hb.cell (p := a) h.lt).trans h.c0, (hb.cell (p := ⟨a.block, a.off + 1, none⟩) h.lt).trans h.c1, (hb.cell (p := ⟨a.block, a.off + 2, none⟩) h.lt).trans h.c2, (hb.cell (p := ⟨a.block, a.off + 3, none⟩) h.lt).trans h.c3,
   (hb.cell (p := ⟨a.block, a.off + 4, none⟩) h.lt).trans h.c4, (hb.cell (p := ⟨a.block, a.off + 5, none⟩) h.lt).trans h.c5, (hb.cell (p := ⟨a.block, a.off + 6, none⟩) h.lt).trans h.c6, (hb.cell (p := ⟨a.block, a.off + 7, none⟩) h.lt).trans h.c7⟩
theorem BkAt.box (w : World) (b : Bk) (t : TypeId) : BkAt (w.alloc (.cells #[.int .i16 b.c, .int .u8 b.m0, .int .u8 b.m1, .int .u8 b.m2, .int .i16 b.v, .int .i16 b.wd, .int .i16 b.h, .int .i16 b.wt] t)) ⟨w.heap.size, 0, none⟩ b :=
  ⟨(blk_cell (blk_new w _) 0).trans rfl, (blk_cell (blk_new w _) 1).trans rfl, (blk_cell (blk_new w _) 2).trans rfl, (blk_cell (blk_new w _) 3).trans rfl, (blk_cell (blk_new w _) 4).trans rfl, (blk_cell (blk_new w _) 5).trans rfl, (blk_cell (blk_new w _) 6).trans rfl, (blk_cell (blk_new w _) 7).trans rfl⟩
theorem at_bk' {xs : List Bk} {w : World} {A : Option Addr} {n : Nat} (h : kBk.C w A n xs) (i : Nat) (hi : i < n) :
    ∃ ad b, A = some ad ∧ Aside0 (xs[i]? = some b) ∧ BkAt w (ad.add (i * 8)) b := by
  obtain ⟨ad, b, e, hb, h0, h1, h2, h3, h4, h5, h6, h7⟩ := at_bk h i hi
  exact ⟨ad, b, e, hb, h0, h1, h2, h3, h4, h5, h6, h7⟩
end Go.Proofs.YtkoaangakmpggaaGreatDoor
end
section
/- The laws' copies of books: toByteA3, toBook, toBookS, szBookS. -/
namespace Go.Proofs.YtkoaangakmpggaaGreatDoor
open Go.RowKit Go.Proofs.YtkoaangakmpggaaGreatDoorW.PrintWords Go.Proofs.YtkoaangakmpggaaGreatDoorW.PrintMore
set_option linter.unusedVariables false
set_option linter.unusedSimpArgs false
set_option maxRecDepth 100000

end Go.Proofs.YtkoaangakmpggaaGreatDoor
end
section
/- Rows of books that a call makes: make, a store of a whole book. -/
namespace Go.Proofs.YtkoaangakmpggaaGreatDoor
open Go.RowKit Go.Proofs.YtkoaangakmpggaaGreatDoorW.PrintWords Go.Proofs.YtkoaangakmpggaaGreatDoorW.PrintMore
set_option linter.unusedVariables false
set_option linter.unusedSimpArgs false
set_option maxRecDepth 100000

theorem info_bk : (Tryz.prog.info? 44).map (fun i => (i.zero, i.size, i.bytes)) = some (some (.agg #[.int .i16 0, .int .u8 0, .int .u8 0, .int .u8 0, .int .i16 0, .int .i16 0, .int .i16 0, .int .i16 0]), 8, 14) := by kernel_rfl
def zBk : Bk := ⟨0, 0, 0, 0, 0, 0, 0, 0⟩
section
variable {ops : Array Oper} {rest : List Oper} {o : Oper} {a : Act} {Q : Exit → Act → World → Prop}
theorem bk_one (b : Bk) : ∀ q, q ∈ Bk.cells b → q.oneCell' = true := by
  intro u hu
  simp only [Bk.cells, List.mem_cons, List.not_mem_nil, or_false] at hu
  rcases hu with rfl | rfl | rfl | rfl | rfl | rfl | rfl | rfl <;> rfl
/-- make([]Book, n). -/
theorem bk_make {w W : World} (hgd : o.guard = none) {N : Tmp} (hd : o.dst = some N) (x y : Operand) (ho : o.op = .makeSlice 24 x y) (n : Nat) (hx : a.eval x = .int .i64 n) (hy : a.eval y = .int .i64 n)
    (hn : n ≤ 2097152) (HB : Below w.heap.size w W)
    (h : ∀ v1 w1, kBk.R 44 w1 w.heap.size (fun _ => True) v1 (List.replicate n zBk) → Below w.heap.size w w1 → Below W.heap.size W w1 → (∃ b, v1.ownBlock = some b ∧ W.heap.size ≤ b) → wpList Tryz.prog ops Q rest (a.put o.dst v1) w1) : wpList Tryz.prog ops Q (o :: rest) a W := by
  refine Kd.R_make kBk (w0 := w) w.heap.size 44 hgd hd 24 x y ho (n : Int) hx hy Tryz.underlying24 _ 14 info_bk rfl (by decide) (by decide) zBk (ok := fun _ => True) (okp := fun _ => True) rfl (fun _ h => h) trivial (by omega) (by simp only [Int.toNat_natCast]; omega) HB HB.size ?_
  intro v1 w1 h1 h2 h3 h4
  rw [Int.toNat_natCast] at h1
  exact h v1 w1 h1 h2 ⟨h3.os, h3.tape, h3.output, h3.size, fun k hk => h3.block k hk (by simp)⟩ h4
/-- out[i] = b. -/
theorem bk_store {w W : World} (base : Nat) (hN : o.dst = none) (hgd : o.guard = none) (p x : Operand) (ho : o.op = .store 44 p x) {e : TypeId} {g n cap o' : Nat} (i : Nat) (xs : List Bk) (b : Bk) (ok : Nat → Prop)
    (haddr : a.eval p = .pointer (some ⟨g, o', none⟩)) (hoff : o' = i * 8) (hx : a.eval x = b.val)
    (HO : kBk.R e W base ok (.slice (some ⟨g, 0, none⟩) n cap) xs) (hi : i < n) (HB : Below base w W)
    (h : ∀ w1, kBk.R e w1 base ok (.slice (some ⟨g, 0, none⟩) n cap) (xs.set i b) → Below base w w1 → W.grownBy w1 (some g) → wpList Tryz.prog ops Q rest a w1) : wpList Tryz.prog ops Q (o :: rest) a W := by
  obtain ⟨c, hcl, hM, hcc, _⟩ := Kd.R_elem HO zBk (i : Int) (by omega) (by omega)
  have hcl8 : c.length = 8 := hcl
  refine Kd.R_store kBk (w0 := w) base hN hgd 44 p x ho e (i : Int) 0 xs b b.val (Bk.cells b) c ok (fun k => ok k ∧ k ≠ g) haddr (by simp only [Int.toNat_natCast]; exact hoff) hx rfl (by rw [show (Bk.cells b).length = 8 from rfl]; kernel_rfl) (bk_one b) HO (by omega) (by omega) hcl (fun j u hu => by have := hcc j u hu; simpa using this) (by show 0 + 8 ≤ 8; omega) ?_ (fun k hk => hk) HB ?_
  · show _ = Bk.cells b
    rw [List.drop_of_length_le (by show c.length ≤ 0 + 8; omega)]
    simp
  · intro w1 h1 h2 h3
    rw [Int.toNat_natCast] at h1
    exact h w1 h1 h2 h3
end
end Go.Proofs.YtkoaangakmpggaaGreatDoor
end
section
/- The laws' copies of lists of books. -/
namespace Go.Proofs.YtkoaangakmpggaaGreatDoor
open Go.RowKit Go.Proofs.YtkoaangakmpggaaGreatDoorW.PrintWords Go.Proofs.YtkoaangakmpggaaGreatDoorW.PrintMore
set_option linter.unusedVariables false
set_option linter.unusedSimpArgs false
set_option maxRecDepth 100000

/-- What a copy says: a row of the call's own that holds L. -/
def NewBk (w : World) (L : List Bk) (v : Value) (w' : World) : Prop := kBk.R 44 w' w.heap.size (fun _ => True) v L
/-- What was copied, as a list that is read from there on. -/
theorem NewBk.open {w w' : World} {L : List Bk} {v : Value} (h : NewBk w L v w') : ∃ A c, v = .slice A L.length c ∧ L.length ≤ c ∧ Aside0 (kBk.C w' A L.length L) := by
  obtain ⟨A, c, h1, h2, h3⟩ := Kd.R_reads h
  exact ⟨A, c, h1, h2, ⟨h3⟩⟩
theorem set_next {α : Type} {L : List α} {z : α} {k : Nat} {x : α} (hx : L[k]? = some x) : (L.take k ++ List.replicate (L.length - k) z).set k x = L.take (k + 1) ++ List.replicate (L.length - (k + 1)) z := by
  have hk : k < L.length := (List.getElem?_eq_some_iff.1 hx).1
  have hl : (L.take k).length = k := by rw [List.length_take]; omega
  rw [List.set_append_right _ _ (by omega), hl, Nat.sub_self, take_snoc hx]
  obtain ⟨m, hm⟩ : ∃ m, L.length - k = m + 1 := ⟨L.length - k - 1, by omega⟩
  rw [hm, List.replicate_succ, List.set_cons_zero, show L.length - (k + 1) = m by omega]
  simp
end Go.Proofs.YtkoaangakmpggaaGreatDoor
end
section
/- Rows of whole numbers and of books that a call makes: append; what a call hands back. -/
namespace Go.Proofs.YtkoaangakmpggaaGreatDoor
open Go.RowKit Go.Proofs.YtkoaangakmpggaaGreatDoorW.PrintWords Go.Proofs.YtkoaangakmpggaaGreatDoorW.PrintMore
set_option linter.unusedVariables false
set_option linter.unusedSimpArgs false
set_option maxRecDepth 100000

theorem info_i64 : (Tryz.prog.info? 2).map (fun i => (i.zero, i.size, i.bytes)) = some (some (.int .i64 0), 1, 8) := by kernel_rfl
/-- A row of whole numbers of the call's own. -/
def NewI (w : World) (L : List Int) (v : Value) (w' : World) : Prop := (Kd.int .i64).R 2 w' w.heap.size (fun _ => True) v L
theorem NewI.open {w w' : World} {L : List Int} {v : Value} (h : NewI w L v w') : ∃ A c, v = .slice A L.length c ∧ L.length ≤ c ∧ Aside0 ((Kd.int .i64).C w' A L.length L) := by
  obtain ⟨A, c, h1, h2, h3⟩ := Kd.R_reads h
  exact ⟨A, c, h1, h2, ⟨h3⟩⟩
/-- A row and a whole number handed back. -/
def TupI (w : World) (L : List Int) (n : Int) (v : Value) (w' : World) : Prop := ∃ v1, v = .tuple #[v1, .int .i64 n] ∧ NewI w L v1 w'
def TupB (w : World) (L : List Bk) (n : Int) (v : Value) (w' : World) : Prop := ∃ v1, v = .tuple #[v1, .int .i64 n] ∧ NewBk w L v1 w'
/-- A row of no element that a literal makes. -/
theorem R_zero {α : Type} (d : Kd α) (e : Nat) (W : World) (base : Nat) (ok : Nat → Prop) (hb : base ≤ W.heap.size) (hok : ok W.heap.size) : d.R e (W.alloc (.cells #[] e)) base ok (.slice (some ⟨W.heap.size, 0, none⟩) 0 0) [] := by
  refine ⟨fun k hk => ?_, [], ?_, Reps.none _ _⟩
  · have : W.heap.size = k := by simpa [Value.ownBlock] using hk
    subst this
    exact hok
  · have h2 := World.ownsRow_lit (base := base) (e := e) (size := d.sz) W #[] 0 hb (by decide) (by simp)
    simpa using h2
section
variable {ops : Array Oper} {rest : List Oper} {o : Oper} {a : Act} {Q : Exit → Act → World → Prop}
/-- append(out, n). -/
theorem i64_append {w W : World} (hgd : o.guard = none) (s x : Operand) (ho : o.op = .call { callee := .builtin .append, args := #[s, x], argTypes := #[47, 47] }) (v : Value) (xs : List Int) (n : Int)
    (hs : a.eval s = v) (hx : a.eval x = .slice (some ⟨W.heap.size, 0, none⟩) 1 1) (HO : (Kd.int .i64).R 2 W w.heap.size (fun _ => True) v xs) (HB : Below w.heap.size w W) (hl : xs.length ≤ 2097152)
    (h : ∀ v1 w1, (Kd.int .i64).R 2 w1 w.heap.size (fun _ => True) v1 (xs ++ [n]) → Below w.heap.size w w1 → W.grownBy w1 v.ownBlock → wpList Tryz.prog ops Q rest (a.put o.dst v1) w1) :
    wpList Tryz.prog ops Q (o :: rest) a (W.alloc (.cells #[.int .i64 n] 2)) :=
  Kd.R_append (Kd.int .i64) (w0 := w) w.heap.size hgd s x 47 2 (.int .i64 0) 8 ho Tryz.underlying47 info_i64 rfl (by decide) (by decide) v xs n [.int .i64 n] (fun _ => True) (fun _ => False) hs hx rfl (fun _ h => h.elim) (fun _ _ => trivial) HO HB HB.size (by omega)
    (fun v1 w1 h1 h2 h3 _ => h v1 w1 h1 h2 h3)
/-- append(out, b). -/
theorem bk_append {w W : World} (hgd : o.guard = none) (s x : Operand) (ho : o.op = .call { callee := .builtin .append, args := #[s, x], argTypes := #[24, 24] }) (v : Value) (xs : List Bk) (b : Bk)
    (hs : a.eval s = v) (hx : a.eval x = .slice (some ⟨W.heap.size, 0, none⟩) 1 1) (HO : kBk.R 44 W w.heap.size (fun _ => True) v xs) (HB : Below w.heap.size w W) (hl : xs.length ≤ 2097152)
    (h : ∀ v1 w1, kBk.R 44 w1 w.heap.size (fun _ => True) v1 (xs ++ [b]) → Below w.heap.size w w1 → W.grownBy w1 v.ownBlock → wpList Tryz.prog ops Q rest (a.put o.dst v1) w1) :
    wpList Tryz.prog ops Q (o :: rest) a (W.alloc (.cells (Bk.cells b).toArray 44)) :=
  Kd.R_append kBk (w0 := w) w.heap.size hgd s x 24 44 (.agg #[.int .i16 0, .int .u8 0, .int .u8 0, .int .u8 0, .int .i16 0, .int .i16 0, .int .i16 0, .int .i16 0]) 14 ho Tryz.underlying24 info_bk rfl (by decide) (by decide) v xs b (Bk.cells b) (fun _ => True) (fun _ => False) hs hx rfl (fun _ h => h.elim) (fun _ _ => trivial) HO HB HB.size (by omega)
    (fun v1 w1 h1 h2 h3 _ => h v1 w1 h1 h2 h3)
end
end Go.Proofs.YtkoaangakmpggaaGreatDoor
end
section
/- Rows that a law's call owns: they stay while other rows are written. No condition. -/
namespace Go.Proofs.YtkoaangakmpggaaGreatDoor
open Go.RowKit Go.Proofs.YtkoaangakmpggaaGreatDoorW.PrintWords Go.Proofs.YtkoaangakmpggaaGreatDoorW.PrintMore
set_option linter.unusedVariables false
set_option linter.unusedSimpArgs false
/-- A row made since w0, in a block of its own. -/
def Own {α : Type} (d : Kd α) (e : Nat) (w0 w : World) (v : Value) (xs : List α) : Prop := d.R e w w0.heap.size (fun k => some k = v.ownBlock) v xs
/-- Two rows in different blocks. -/
def Apart (u v : Value) : Prop := ∀ k, u.ownBlock = some k → v.ownBlock ≠ some k
theorem Apart.symm {u v : Value} (h : Apart u v) : Apart v u := fun k hk hu => h k hu hk
section
variable {α β : Type} {d : Kd α} {d' : Kd β} {e e' : Nat} {w0 w w' : World} {u v : Value} {xs : List α} {ys : List β}
theorem Own.mk' {w1 : World} {ok : Nat → Prop} (hE : d.E = []) (h : d.R e w w1.heap.size ok v xs) (hB : w0.heap.size ≤ w1.heap.size) : Own d e w0 w v xs := Kd.R_tight hE (Kd.R_lower h hB)
theorem Own.below (h : Own d e w0 w v xs) (hb : Below w.heap.size w w') : Own d e w0 w' v xs := Kd.R_below h hb
theorem Own.grown (h : Own d e w0 w v xs) (hg : w.grownBy w' u.ownBlock) (ha : Apart v u) : Own d e w0 w' v xs := Kd.R_grown h hg (fun k hk he => ha k hk.symm he.symm)
theorem Own.reads {A : Option Addr} {n c : Nat} (h : Own d e w0 w (.slice A n c) xs) : d.C w A xs.length xs := (Kd.R_reads' h).2.2
theorem Own.open (h : Own d e w0 w v xs) : ∃ A c, v = .slice A xs.length c ∧ xs.length ≤ c := by
  obtain ⟨A, c, h1, h2, _⟩ := Kd.R_reads h
  exact ⟨A, c, h1, h2⟩
theorem Own.len {A : Option Addr} {n c : Nat} (h : Own d e w0 w (.slice A n c) xs) : n = xs.length := (Kd.R_reads' h).1
theorem Apart.new {ok : Nat → Prop} (h : Own d e w0 w u xs) (k : d'.R e' w' w.heap.size ok v ys) : Apart u v := fun b hb hv => by
  have h1 := Kd.R_lt h b hb
  have h2 := Kd.R_base k b hv
  omega
theorem Own.mark (h : Own d e w0 w v xs) (hB : Below w0.heap.size w0 w) (hg : w.grownBy w' v.ownBlock) : Below w0.heap.size w0 w' := pw_below_grown hB _ hB.size hg (fun k hk => Kd.R_base h k hk)
end
theorem kBk_E : kBk.E = [] := rfl
theorem kInt_E (k : IntKind) : (Kd.int k).E = [] := rfl
/-- n numbers from k on. -/
def upI (k : Int) : Nat → List Int
  | 0 => []
  | n + 1 => k :: upI (k + 1) n
theorem upI_len (k : Int) (n : Nat) : (upI k n).length = n := by
  induction n generalizing k with
  | zero => rfl
  | succ n ih => simp [upI, ih]
theorem upI_snoc (k : Int) (n : Nat) : upI k (n + 1) = upI k n ++ [k + n] := by
  induction n generalizing k with
  | zero => simp [upI]
  | succ n ih =>
    rw [upI, ih (k + 1), upI]
    simp only [List.cons_append, List.cons.injEq, true_and]
    congr 2
    omega
theorem upI_at (k : Int) {n i : Nat} (h : i < n) : (upI k n)[i]? = some (k + i) := by
  induction n generalizing k i with
  | zero => omega
  | succ n ih =>
    rw [upI]
    cases i with
    | zero => simp
    | succ i =>
      rw [List.getElem?_cons_succ, ih (k + 1) (by omega)]
      congr 1
      omega
/-- What stands behind i stores. -/
theorem upI_set {L : List Int} {k : Int} {i : Nat} (h : i < L.length) : (upI k i ++ L.drop i).set i (k + i) = upI k (i + 1) ++ L.drop (i + 1) := by
  rw [List.set_append_right _ _ (by rw [upI_len]; exact Nat.le_refl _), upI_len, Nat.sub_self, upI_snoc, List.drop_eq_getElem_cons h, List.set_cons_zero]
  simp
end Go.Proofs.YtkoaangakmpggaaGreatDoor
end
section
/- The laws' words on rows of whole numbers: copies, comparisons, marks. -/
namespace Go.Proofs.YtkoaangakmpggaaGreatDoor
open Go.RowKit Go.Proofs.YtkoaangakmpggaaGreatDoorW.PrintWords Go.Proofs.YtkoaangakmpggaaGreatDoorW.PrintMore
set_option linter.unusedVariables false
set_option linter.unusedSimpArgs false
set_option maxRecDepth 100000

/-- A row was marked: what it holds, what came back, what else stayed. -/
def Marked {α : Type} (d : Kd α) (e : Nat) (w0 w : World) (v : Value) (ys : List α) (r : Int) (en : Ending) (w' : World) : Prop := en = .returned (.int .i64 r) ∧ Own d e w0 w' v ys ∧ w.grownBy w' v.ownBlock
theorem upM_set {L : List Int} {m : Int} (f : Int → Int) {k : Nat} (h : k < L.length) : ((upI m k).map f ++ L.drop k).set k (f (m + k)) = (upI m (k + 1)).map f ++ L.drop (k + 1) := by
  have hl : ((upI m k).map f).length = k := by rw [List.length_map, upI_len]
  rw [List.set_append_right _ _ (by omega), hl, Nat.sub_self, upI_snoc, List.drop_eq_getElem_cons h, List.set_cons_zero, List.map_append]
  simp
def OkI64 (L : List Int) : Prop := ∀ x, x ∈ L → -9223372036854775808 ≤ x ∧ x ≤ 9223372036854775807
def OkI8 (L : List Int) : Prop := ∀ x, x ∈ L → -128 ≤ x ∧ x ≤ 127
def NewI64 (w : World) (L : List Int) (v : Value) (w' : World) : Prop := (Kd.int .i64).R 2 w' w.heap.size (fun _ => True) v L
theorem NewI64.open {w w' : World} {L : List Int} {v : Value} (h : NewI64 w L v w') : ∃ A c, v = .slice A L.length c ∧ L.length ≤ c ∧ Aside0 ((Kd.int .i64).C w' A L.length L) := by
  obtain ⟨A, c, h1, h2, h3⟩ := Kd.R_reads h
  exact ⟨A, c, h1, h2, ⟨h3⟩⟩
theorem infoI64 : (Tryz.prog.info? 2).map (fun i => (i.zero, i.size, i.bytes)) = some (some (.int .i64 0), 1, 8) := by kernel_rfl
theorem makeI64 {ops : Array Oper} {rest : List Oper} {o : Oper} {a : Act} {Q : Exit → Act → World → Prop} {w W : World} (hgd : o.guard = none) {N : Tmp} (hd : o.dst = some N) (x y : Operand) (ho : o.op = .makeSlice 47 x y) (n : Nat) (hx : a.eval x = .int .i64 n) (hy : a.eval y = .int .i64 n)
    (hn : n ≤ 2097152) (HB : Below w.heap.size w W)
    (h : ∀ v1 w1, (Kd.int .i64).R 2 w1 w.heap.size (fun _ => True) v1 (List.replicate n 0) → Below w.heap.size w w1 → wpList Tryz.prog ops Q rest (a.put o.dst v1) w1) : wpList Tryz.prog ops Q (o :: rest) a W := by
  refine Kd.R_make (Kd.int .i64) (w0 := w) w.heap.size 2 hgd hd 47 x y ho (n : Int) hx hy Tryz.underlying47 _ 8 infoI64 rfl (by decide) (by decide) (0 : Int) (ok := fun _ => True) (okp := fun _ => True) rfl (fun _ h => h) trivial (by omega) (by simp only [Int.toNat_natCast]; omega) HB HB.size ?_
  intro v1 w1 h1 h2 h3 h4
  rw [Int.toNat_natCast] at h1
  exact h v1 w1 h1 h2
end Go.Proofs.YtkoaangakmpggaaGreatDoor
end
section
/- The laws' marks on rows of books. -/
namespace Go.Proofs.YtkoaangakmpggaaGreatDoor
open Go.RowKit Go.Proofs.YtkoaangakmpggaaGreatDoorW.PrintWords Go.Proofs.YtkoaangakmpggaaGreatDoorW.PrintMore
set_option linter.unusedVariables false
set_option linter.unusedSimpArgs false
set_option maxRecDepth 100000

def markB (m : Int) : Bk := ⟨IntKind.i16.wrap m, (m + 1) % 256, (m + 1 + 1) % 256, (m + 1 + 1 + 1) % 256, IntKind.i16.wrap (m + 1 + 1 + 1 + 1), IntKind.i16.wrap (m + 1 + 1 + 1 + 1 + 1), IntKind.i16.wrap (m + 1 + 1 + 1 + 1 + 1 + 1), IntKind.i16.wrap (m + 1 + 1 + 1 + 1 + 1 + 1 + 1)⟩
def markL (m : Int) : Nat → List Bk
  | 0 => []
  | n + 1 => markB m :: markL (m + 8) n
theorem markL_len (m : Int) (n : Nat) : (markL m n).length = n := by
  induction n generalizing m with
  | zero => rfl
  | succ n ih => simp [markL, ih]
theorem markL_at (m : Int) {n i : Nat} (h : i < n) : (markL m n)[i]? = some (markB (m + 8 * (i : Int))) := by
  induction n generalizing m i with
  | zero => omega
  | succ n ih =>
    rw [markL]
    cases i with
    | zero => simp
    | succ i =>
      rw [List.getElem?_cons_succ, ih (m + 8) (by omega)]
      congr 2
      omega
theorem markL_snoc (m : Int) (n : Nat) : markL m (n + 1) = markL m n ++ [markB (m + 8 * (n : Int))] := by
  induction n generalizing m with
  | zero => simp [markL]
  | succ n ih =>
    rw [markL, ih (m + 8), markL]
    simp only [List.cons_append, List.cons.injEq, true_and]
    congr 3
    omega
theorem markL_set {L : List Bk} {m : Int} {k : Nat} (h : k < L.length) : (markL m k ++ L.drop k).set k (markB (m + 8 * (k : Int))) = markL m (k + 1) ++ L.drop (k + 1) := by
  have hl : (markL m k).length = k := markL_len m k
  rw [List.set_append_right _ _ (by omega), hl, Nat.sub_self, markL_snoc, List.drop_eq_getElem_cons h, List.set_cons_zero]
  simp
/-- All cells of element k are written. -/
theorem own_put8 {w0 W : World} {g n cap : Nat} {xs : List Bk} {k : Nat} (b : Bk) (h : Own kBk 44 w0 W (.slice (some ⟨g, 0, none⟩) n cap) xs) (hk : k < n) :
    Own kBk 44 w0 (W.setCells g (k * 8) (Bk.cells b)) (.slice (some ⟨g, 0, none⟩) n cap) (xs.set k b) ∧ W.grownBy (W.setCells g (k * 8) (Bk.cells b)) (some g) := by
  obtain ⟨c, hcl, _, hcc, _⟩ := Kd.R_elem h zBk (k : Int) (by omega) (by omega)
  have hcl8 : c.length = 8 := hcl
  have := Kd.R_seg (okp := fun _ => False) h (k : Int) (by omega) (by omega) hcl (seg := Bk.cells b) (j := 0) (by simpa using hcc) (by show 0 + 8 ≤ 8; omega) (x' := b) (by
    show _ = Bk.cells b
    rw [List.drop_of_length_le (by show c.length ≤ 0 + 8; omega)]
    simp) (fun _ h => h.elim)
  rw [Int.toNat_natCast] at this
  exact this
theorem own_cells8 {w0 W : World} {g n cap : Nat} {xs : List Bk} {k : Nat} (h : Own kBk 44 w0 W (.slice (some ⟨g, 0, none⟩) n cap) xs) (hk : k < n) :
    ∃ c0 c1 c2 c3 c4 c5 c6 c7, W.cell? ⟨g, k * 8, none⟩ = some c0 ∧ W.cell? ⟨g, k * 8 + 1, none⟩ = some c1 ∧ W.cell? ⟨g, k * 8 + 2, none⟩ = some c2 ∧ W.cell? ⟨g, k * 8 + 3, none⟩ = some c3 ∧ W.cell? ⟨g, k * 8 + 4, none⟩ = some c4 ∧ W.cell? ⟨g, k * 8 + 5, none⟩ = some c5 ∧ W.cell? ⟨g, k * 8 + 6, none⟩ = some c6 ∧ W.cell? ⟨g, k * 8 + 7, none⟩ = some c7 ∧
      W.frozen? ⟨g, k * 8, none⟩ = false ∧ W.frozen? ⟨g, k * 8 + 1, none⟩ = false ∧ W.frozen? ⟨g, k * 8 + 2, none⟩ = false ∧ W.frozen? ⟨g, k * 8 + 3, none⟩ = false ∧ W.frozen? ⟨g, k * 8 + 4, none⟩ = false ∧ W.frozen? ⟨g, k * 8 + 5, none⟩ = false ∧ W.frozen? ⟨g, k * 8 + 6, none⟩ = false ∧ W.frozen? ⟨g, k * 8 + 7, none⟩ = false := by
  obtain ⟨c, hcl, _, hcc, hf⟩ := Kd.R_elem h zBk (k : Int) (by omega) (by omega)
  rw [Int.toNat_natCast] at hcc hf
  have hcl8 : c.length = 8 := hcl
  match c, hcl8 with
  | [c0, c1, c2, c3, c4, c5, c6, c7], _ =>
    exact ⟨c0, c1, c2, c3, c4, c5, c6, c7, hcc 0 _ rfl, hcc 1 _ rfl, hcc 2 _ rfl, hcc 3 _ rfl, hcc 4 _ rfl, hcc 5 _ rfl, hcc 6 _ rfl, hcc 7 _ rfl, hf 0, hf 1, hf 2, hf 3, hf 4, hf 5, hf 6, hf 7⟩
/-- A marked row, as the reader finds it. -/
theorem heldCB {w0 w : World} {A : Option Addr} {n c : Nat} {m : Int} (h : Own kBk 44 w0 w (.slice A n c) (markL m n)) : kBk.C w A n (markL m n) := by
  have := h.reads
  rwa [markL_len] at this
theorem heldCI {k : IntKind} {e : Nat} {w0 w : World} {A : Option Addr} {n c : Nat} {m : Int} {f : Int → Int} (h : Own (Kd.int k) e w0 w (.slice A n c) ((upI m n).map f)) : (Kd.int k).C w A n ((upI m n).map f) := by
  have := h.reads
  rwa [List.length_map, upI_len] at this
end Go.Proofs.YtkoaangakmpggaaGreatDoor
end
section
/- areAll, slices.ContainsFunc, slices.IndexFunc at books and at bytes: they ask the function value of every element. -/
namespace Go.Proofs.YtkoaangakmpggaaGreatDoor
open Go.RowKit Go.Proofs.YtkoaangakmpggaaGreatDoorW.PrintWords Go.Proofs.YtkoaangakmpggaaGreatDoorW.PrintMore
set_option linter.unusedVariables false
set_option linter.unusedSimpArgs false
set_option maxRecDepth 100000


theorem indexFuncBk_c (A : Option Addr) (c : Nat) (L : List Bk) (f : FuncId) (cap : Array Value) (p : Bk → Bool) (w : World)
    (hL : kBk.C w A L.length L) (hfn : Fun Tryz.prog f)
    (hf : ∀ W, Below w.heap.size w W → ∀ x, x ∈ L → Calls Tryz.prog f (#[x.val] ++ cap) W (Ret W (.bool (p x)))) :
    Calls Tryz.prog 106 #[.slice A L.length c, .func (.func f) #[] cap] w (Ret w (.int .i64 (idxF L p))) := by
  have hm := Kd.C_max hL
  have hcf := hfn.run
  have HF := Aside0.mk hf
  have HL := Aside0.mk hL
  clear hf hfn hL
  go_enter Tryz.func106, Tryz.ntmps106
  go_wp2
  go_loopg [8] L.length (fun gk v8 wr => ∃ k : Nat, k + gk = L.length ∧ v8 = .int .i64 k ∧ Aside0 (∀ x, x ∈ L.take k → p x = false) ∧ Aside0 (Below w.heap.size w wr))
  case atStart => exact ⟨0, by omega, rfl, ⟨by simp⟩, ⟨Below.refl _ _⟩⟩
  case round =>
    obtain ⟨k, hk, rfl, hp, hb⟩ := hrel
    have HK := Aside0.mk hk
    by_cases hlt : k < L.length
    · obtain ⟨ad, b, rfl, hbk, hx0, hx1, hx2, hx3, hx4, hx5, hx6, hx7⟩ := at_bk (Kd.C_below HL.out hb.out) k (by omega)
      clear hk
      go_wp2_with (refine (HF.out _ hb.out _ (mem_of hbk.out)).mono ?_; rintro _ w1 ⟨rfl, hb1⟩)
      · rename_i hpb
        go_ret
        exact ⟨ret_int (idxF_hit hp.out hbk.out hpb).symm, bstep hb.out hb1⟩
      · rename_i hpb
        go_roundg (gk - 1)
        case measure => have := HK.out; omega
        case rel => exact ⟨k + 1, by have := HK.out; omega, by go_num, ⟨fun y hy => by rw [take_snoc hbk.out] at hy; rcases List.mem_append.1 hy with hy | hy; exact hp.out y hy; rw [List.mem_singleton.1 hy]; exact hpb⟩, ⟨bstep hb.out hb1⟩⟩
    · clear hk
      go_wp2
      go_ret
      refine ⟨ret_int (idxF_none ?_).symm, hb.out⟩
      have hp1 := hp.out
      rw [List.take_of_length_le (by omega)] at hp1
      exact hp1


theorem containsFuncBk_c (A : Option Addr) (c : Nat) (L : List Bk) (f : FuncId) (cap : Array Value) (p : Bk → Bool) (w : World)
    (hL : kBk.C w A L.length L) (hfn : Fun Tryz.prog f)
    (hf : ∀ W, Below w.heap.size w W → ∀ x, x ∈ L → Calls Tryz.prog f (#[x.val] ++ cap) W (Ret W (.bool (p x)))) :
    Calls Tryz.prog 79 #[.slice A L.length c, .func (.func f) #[] cap] w (Ret w (.bool (L.any p))) := by
  have HI := Aside0.mk (indexFuncBk_c A c L f cap p w hL hfn hf)
  clear hL hfn hf
  go_enter Tryz.func79, Tryz.ntmps79
  go_wp2_with (go_at_call 106; refine HI.out.mono ?_; rintro _ w1 ⟨rfl, hb1⟩)
  all_goals (go_ret; exact ⟨ret_bool (idxF_any L p), hb1⟩)


theorem allCloBk_c (x : Bk) (f : FuncId) (cap : Array Value) (g : Nat) (w : World) (r : Bool) (hc : w.cell? ⟨g, 0, none⟩ = some (.func (.func f) #[] cap)) (hg : g < w.heap.size)
    (hf : ∀ W, Below w.heap.size w W → Calls Tryz.prog f (#[x.val] ++ cap) W (Ret W (.bool r))) (hfn : Fun Tryz.prog f) :
    Calls Tryz.prog 80 #[x.val, .pointer (some ⟨g, 0, none⟩)] w (Ret w (.bool (!r))) := by
  have hcf := hfn.run
  have HF := Aside0.mk hf
  have hca : ∀ o, (w.alloc o).cell? ⟨g, 0, none⟩ = some (.func (.func f) #[] cap) := fun o => (World.cell?_alloc_lt w o _ hg).trans hc
  clear hf hfn
  simp only [Bk.val]
  go_enter Tryz.func80, Tryz.ntmps80
  go_wp2_with (refine (HF.out _ (by first | exact Below.refl _ _ | exact balloc (Below.refl _ _) _)).mono ?_; rintro _ w1 ⟨rfl, hb1⟩)
  all_goals (go_ret; exact ⟨rfl, by first | exact hb1 | exact bstep (balloc (Below.refl _ _) _) hb1⟩)
theorem areAllBk_c (A : Option Addr) (c : Nat) (L : List Bk) (f : FuncId) (cap : Array Value) (p : Bk → Bool) (w : World)
    (hL : kBk.C w A L.length L) (hfn : Fun Tryz.prog f)
    (hf : ∀ W, Below w.heap.size w W → ∀ x, x ∈ L → Calls Tryz.prog f (#[x.val] ++ cap) W (Ret W (.bool (p x)))) :
    Calls Tryz.prog 48 #[.slice A L.length c, .func (.func f) #[] cap] w (Ret w (.bool (L.all p))) := by
  have hcl : ∀ W, Below (w.alloc (.cells #[.func (.func f) #[] cap] 72)).heap.size (w.alloc (.cells #[.func (.func f) #[] cap] 72)) W → ∀ x, x ∈ L →
      Calls Tryz.prog 80 (#[x.val] ++ #[.pointer (some ⟨w.heap.size, 0, none⟩)]) W (Ret W (.bool (!(p x)))) := fun W hW x hx => by
    have h0 : W.cell? ⟨w.heap.size, 0, none⟩ = some (.func (.func f) #[] cap) := by
      rw [hW.cell (by simp)]; exact (blk_cell (blk_new w _) 0).trans rfl
    have hbW : Below w.heap.size w W := bstep (balloc (Below.refl _ _) _) hW
    exact allCloBk_c x f cap w.heap.size W (p x) h0 (by have := hW.size; simp at this; omega) (fun W' hW' => hf W' (bstep hbW hW') x hx) hfn
  have HI := Aside0.mk (containsFuncBk_c A c L 80 #[.pointer (some ⟨w.heap.size, 0, none⟩)] (fun x => !(p x)) (w.alloc (.cells #[.func (.func f) #[] cap] 72)) (Kd.C_alloc hL _) ⟨_, Tryz.func80, rfl, rfl⟩ hcl)
  clear hL hfn hf hcl
  go_enter Tryz.func48, Tryz.ntmps48
  go_wp2_with (go_at_call 79; refine HI.out.mono ?_; rintro _ w1 ⟨rfl, hb1⟩)
  all_goals (go_ret; exact ⟨ret_bool (by rw [List.all_eq_not_any_not]), bstep (balloc (Below.refl _ _) _) hb1⟩)


theorem indexFuncBy_c (A : Option Addr) (c : Nat) (L : List Int) (f : FuncId) (cap : Array Value) (p : Int → Bool) (w : World)
    (hL : (Kd.int .u8).C w A L.length L) (hfn : Fun Tryz.prog f)
    (hf : ∀ W, Below w.heap.size w W → ∀ x, x ∈ L → Calls Tryz.prog f (#[.int .u8 x] ++ cap) W (Ret W (.bool (p x)))) :
    Calls Tryz.prog 120 #[.slice A L.length c, .func (.func f) #[] cap] w (Ret w (.int .i64 (idxF L p))) := by
  have hm := Kd.C_max hL
  have hcf := hfn.run
  have HF := Aside0.mk hf
  have HL := Aside0.mk hL
  clear hf hfn hL
  go_enter Tryz.func120, Tryz.ntmps120
  go_wp2
  go_loopg [8] L.length (fun gk v8 wr => ∃ k : Nat, k + gk = L.length ∧ v8 = .int .i64 k ∧ Aside0 (∀ x, x ∈ L.take k → p x = false) ∧ Aside0 (Below w.heap.size w wr))
  case atStart => exact ⟨0, by omega, rfl, ⟨by simp⟩, ⟨Below.refl _ _⟩⟩
  case round =>
    obtain ⟨k, hk, rfl, hp, hb⟩ := hrel
    have HK := Aside0.mk hk
    by_cases hlt : k < L.length
    · obtain ⟨ad, x, rfl, hbk, hx⟩ := at_int' (Kd.C_below HL.out hb.out) k (by omega)
      clear hk
      go_wp2_with (refine (HF.out _ hb.out _ (mem_of hbk.out)).mono ?_; rintro _ w1 ⟨rfl, hb1⟩)
      · rename_i hpb
        go_ret
        exact ⟨ret_int (idxF_hit hp.out hbk.out hpb).symm, bstep hb.out hb1⟩
      · rename_i hpb
        go_roundg (gk - 1)
        case measure => have := HK.out; omega
        case rel => exact ⟨k + 1, by have := HK.out; omega, by go_num, ⟨fun y hy => by rw [take_snoc hbk.out] at hy; rcases List.mem_append.1 hy with hy | hy; exact hp.out y hy; rw [List.mem_singleton.1 hy]; exact hpb⟩, ⟨bstep hb.out hb1⟩⟩
    · clear hk
      go_wp2
      go_ret
      refine ⟨ret_int (idxF_none ?_).symm, hb.out⟩
      have hp1 := hp.out
      rw [List.take_of_length_le (by omega)] at hp1
      exact hp1


theorem containsFuncBy_c (A : Option Addr) (c : Nat) (L : List Int) (f : FuncId) (cap : Array Value) (p : Int → Bool) (w : World)
    (hL : (Kd.int .u8).C w A L.length L) (hfn : Fun Tryz.prog f)
    (hf : ∀ W, Below w.heap.size w W → ∀ x, x ∈ L → Calls Tryz.prog f (#[.int .u8 x] ++ cap) W (Ret W (.bool (p x)))) :
    Calls Tryz.prog 107 #[.slice A L.length c, .func (.func f) #[] cap] w (Ret w (.bool (L.any p))) := by
  have HI := Aside0.mk (indexFuncBy_c A c L f cap p w hL hfn hf)
  clear hL hfn hf
  go_enter Tryz.func107, Tryz.ntmps107
  go_wp2_with (go_at_call 120; refine HI.out.mono ?_; rintro _ w1 ⟨rfl, hb1⟩)
  all_goals (go_ret; exact ⟨ret_bool (idxF_any L p), hb1⟩)


theorem allCloBy_c (x : Int) (f : FuncId) (cap : Array Value) (g : Nat) (w : World) (r : Bool) (hc : w.cell? ⟨g, 0, none⟩ = some (.func (.func f) #[] cap)) (hg : g < w.heap.size)
    (hf : ∀ W, Below w.heap.size w W → Calls Tryz.prog f (#[.int .u8 x] ++ cap) W (Ret W (.bool r))) (hfn : Fun Tryz.prog f) :
    Calls Tryz.prog 108 #[.int .u8 x, .pointer (some ⟨g, 0, none⟩)] w (Ret w (.bool (!r))) := by
  have hcf := hfn.run
  have HF := Aside0.mk hf
  have hca : ∀ o, (w.alloc o).cell? ⟨g, 0, none⟩ = some (.func (.func f) #[] cap) := fun o => (World.cell?_alloc_lt w o _ hg).trans hc
  clear hf hfn
  go_enter Tryz.func108, Tryz.ntmps108
  go_wp2_with (refine (HF.out _ (by first | exact Below.refl _ _ | exact balloc (Below.refl _ _) _)).mono ?_; rintro _ w1 ⟨rfl, hb1⟩)
  all_goals (go_ret; exact ⟨rfl, by first | exact hb1 | exact bstep (balloc (Below.refl _ _) _) hb1⟩)
theorem areAllBy_c (A : Option Addr) (c : Nat) (L : List Int) (f : FuncId) (cap : Array Value) (p : Int → Bool) (w : World)
    (hL : (Kd.int .u8).C w A L.length L) (hfn : Fun Tryz.prog f)
    (hf : ∀ W, Below w.heap.size w W → ∀ x, x ∈ L → Calls Tryz.prog f (#[.int .u8 x] ++ cap) W (Ret W (.bool (p x)))) :
    Calls Tryz.prog 82 #[.slice A L.length c, .func (.func f) #[] cap] w (Ret w (.bool (L.all p))) := by
  have hcl : ∀ W, Below (w.alloc (.cells #[.func (.func f) #[] cap] 115)).heap.size (w.alloc (.cells #[.func (.func f) #[] cap] 115)) W → ∀ x, x ∈ L →
      Calls Tryz.prog 108 (#[.int .u8 x] ++ #[.pointer (some ⟨w.heap.size, 0, none⟩)]) W (Ret W (.bool (!(p x)))) := fun W hW x hx => by
    have h0 : W.cell? ⟨w.heap.size, 0, none⟩ = some (.func (.func f) #[] cap) := by
      rw [hW.cell (by simp)]; exact (blk_cell (blk_new w _) 0).trans rfl
    have hbW : Below w.heap.size w W := bstep (balloc (Below.refl _ _) _) hW
    exact allCloBy_c x f cap w.heap.size W (p x) h0 (by have := hW.size; simp at this; omega) (fun W' hW' => hf W' (bstep hbW hW') x hx) hfn
  have HI := Aside0.mk (containsFuncBy_c A c L 108 #[.pointer (some ⟨w.heap.size, 0, none⟩)] (fun x => !(p x)) (w.alloc (.cells #[.func (.func f) #[] cap] 115)) (Kd.C_alloc hL _) ⟨_, Tryz.func108, rfl, rfl⟩ hcl)
  clear hL hfn hf hcl
  go_enter Tryz.func82, Tryz.ntmps82
  go_wp2_with (go_at_call 107; refine HI.out.mono ?_; rintro _ w1 ⟨rfl, hb1⟩)
  all_goals (go_ret; exact ⟨ret_bool (by rw [List.all_eq_not_any_not]), bstep (balloc (Below.refl _ _) _) hb1⟩)

end Go.Proofs.YtkoaangakmpggaaGreatDoor
end
section
/- A book is valid: the program's ValidBook and the reference's. -/
namespace Go.Proofs.YtkoaangakmpggaaGreatDoor
open Go.RowKit Go.Proofs.YtkoaangakmpggaaGreatDoorW.PrintWords Go.Proofs.YtkoaangakmpggaaGreatDoorW.PrintMore
set_option linter.unusedVariables false
set_option linter.unusedSimpArgs false
set_option maxRecDepth 100000

/-- A mark of three small letters. -/
def vMark (x y z : Int) : Bool := inR x 97 122 && (inR y 97 122 && inR z 97 122)
def vBook (b : Bk) : Bool := inR b.c 0 999 && (vMark b.m0 b.m1 b.m2 && (inR b.v 1 99 && (inR b.wd 1 100 && (inR b.h 50 400 && inR b.wt 1 9999))))

theorem within16_c (n lo hi : Int) (w : World) : Calls Tryz.prog 81 #[.int .i16 n, .int .i16 lo, .int .i16 hi] w (RetS w (.bool (inR n lo hi))) := by
  go_enter Tryz.func81, Tryz.ntmps81
  go_wp2
  all_goals (go_ret; refine ⟨ret_bool ?_, rfl⟩; unfold inR; rw [Bool.eq_iff_iff]; simp; omega)
theorem l00In_c (n lo hi : Int) (w : World) : Calls Tryz.prog 63 #[.int .i64 n, .int .i64 lo, .int .i64 hi] w (RetS w (.bool (inR n lo hi))) := by
  go_enter Tryz.func63, Tryz.ntmps63
  go_wp2
  all_goals (go_ret; refine ⟨ret_bool ?_, rfl⟩; unfold inR; rw [Bool.eq_iff_iff]; simp; omega)
theorem isSmall_c (n : Int) (w : World) : Calls Tryz.prog 83 #[.int .u8 n] w (RetS w (.bool (inR n 97 122))) := by
  go_enter Tryz.func83, Tryz.ntmps83
  go_wp2
  all_goals (go_ret; refine ⟨ret_bool ?_, rfl⟩; unfold inR; rw [Bool.eq_iff_iff]; simp; omega)
theorem l01Class_c (n : Int) (w : World) : Calls Tryz.prog 89 #[.int .i64 n] w (RetS w (.bool (inR n 0 999))) := by
  go_enter Tryz.func89, Tryz.ntmps89
  go_wp2_with (go_at_call 63; refine (l00In_c _ _ _ _).mono ?_; rintro _ w1 ⟨rfl, rfl⟩)
  all_goals (go_ret; exact ⟨rfl, rfl⟩)

/-- The three bytes of an array that lies in a block read as a slice. -/
theorem marks_C (W : World) (g o : Nat) (x y z : Int) (h0 : W.cell? ⟨g, o, none⟩ = some (.int .u8 x)) (h1 : W.cell? ⟨g, o + 1, none⟩ = some (.int .u8 y)) (h2 : W.cell? ⟨g, o + 2, none⟩ = some (.int .u8 z)) :
    (Kd.int .u8).C W (some ⟨g, o, none⟩) [x, y, z].length [x, y, z] := by
  refine ⟨rfl, by simp, fun _ => ⟨_, rfl, fun j p hj => ?_⟩⟩
  match j, hj with
  | 0, hj => cases hj; exact ⟨_, rfl, rfl, fun i u hu => by match i, hu with | 0, hu => cases hu; simpa [Addr.add] using h0⟩
  | 1, hj => cases hj; exact ⟨_, rfl, rfl, fun i u hu => by match i, hu with | 0, hu => cases hu; simpa [Addr.add, Kd.int, Kd.scalar] using h1⟩
  | 2, hj => cases hj; exact ⟨_, rfl, rfl, fun i u hu => by match i, hu with | 0, hu => cases hu; simpa [Addr.add, Kd.int, Kd.scalar] using h2⟩

theorem markAll (x y z : Int) : [x, y, z].all (fun c => inR c 97 122) = vMark x y z := by simp [vMark]

set_option maxHeartbeats 1000000 in
theorem ValidBook_c (b : Bk) (w : World) : Calls Tryz.prog 49 #[b.val] w (Ret w (.bool (vBook b))) := by
  have hC := marks_C (w.alloc (.cells #[.int .i16 b.c, .int .u8 b.m0, .int .u8 b.m1, .int .u8 b.m2, .int .i16 b.v, .int .i16 b.wd, .int .i16 b.h, .int .i16 b.wt] 44)) w.heap.size 1 b.m0 b.m1 b.m2
    ((blk_cell (blk_new w _) 1).trans rfl) ((blk_cell (blk_new w _) 2).trans rfl) ((blk_cell (blk_new w _) 3).trans rfl)
  have HA := Aside0.mk (areAllBy_c _ 3 _ 83 #[] (fun c => inR c 97 122) _ hC ⟨_, Tryz.func83, rfl, rfl⟩ (fun W hW x hx => (isSmall_c x W).mono fun e w' h => h.ret))
  rw [markAll] at HA
  clear hC
  simp only [Bk.val]
  cases h1 : inR b.c 0 999
  · have HV := Aside0.mk (show vBook b = false by simp [vBook, h1])
    go_enter Tryz.func49, Tryz.ntmps49
    go_wp2_with (first | (go_at_call 81; refine (within16_c _ _ _ _).mono ?_; rintro _ w1 ⟨rfl, rfl⟩) | (go_at_call 82; refine HA.out.mono ?_; rintro _ w1 ⟨rfl, hb1⟩; have HB1 := Aside0.mk hb1; obtain ⟨hc1, hf1⟩ := bcell hb1; clear hb1))
    all_goals (go_ret; exact ⟨ret_bool HV.out.symm, balloc (Below.refl _ _) _⟩)
  · cases h2 : vMark b.m0 b.m1 b.m2
    · rw [h2] at HA
      have HV := Aside0.mk (show vBook b = false by simp [vBook, h1, h2])
      go_enter Tryz.func49, Tryz.ntmps49
      go_wp2_with (first | (go_at_call 81; refine (within16_c _ _ _ _).mono ?_; rintro _ w1 ⟨rfl, rfl⟩) | (go_at_call 82; refine HA.out.mono ?_; rintro _ w1 ⟨rfl, hb1⟩; have HB1 := Aside0.mk hb1; obtain ⟨hc1, hf1⟩ := bcell hb1; clear hb1))
      all_goals (go_ret; exact ⟨ret_bool HV.out.symm, bstep (balloc (Below.refl _ _) _) HB1.out⟩)
    · rw [h2] at HA
      cases h3 : inR b.v 1 99
      · have HV := Aside0.mk (show vBook b = false by simp [vBook, h1, h2, h3])
        go_enter Tryz.func49, Tryz.ntmps49
        go_wp2_with (first | (go_at_call 81; refine (within16_c _ _ _ _).mono ?_; rintro _ w1 ⟨rfl, rfl⟩) | (go_at_call 82; refine HA.out.mono ?_; rintro _ w1 ⟨rfl, hb1⟩; have HB1 := Aside0.mk hb1; obtain ⟨hc1, hf1⟩ := bcell hb1; clear hb1))
        all_goals (go_ret; exact ⟨ret_bool HV.out.symm, bstep (balloc (Below.refl _ _) _) HB1.out⟩)
      · cases h4 : inR b.wd 1 100
        · have HV := Aside0.mk (show vBook b = false by simp [vBook, h1, h2, h3, h4])
          go_enter Tryz.func49, Tryz.ntmps49
          go_wp2_with (first | (go_at_call 81; refine (within16_c _ _ _ _).mono ?_; rintro _ w1 ⟨rfl, rfl⟩) | (go_at_call 82; refine HA.out.mono ?_; rintro _ w1 ⟨rfl, hb1⟩; have HB1 := Aside0.mk hb1; obtain ⟨hc1, hf1⟩ := bcell hb1; clear hb1))
          all_goals (go_ret; exact ⟨ret_bool HV.out.symm, bstep (balloc (Below.refl _ _) _) HB1.out⟩)
        · cases h5 : inR b.h 50 400
          · have HV := Aside0.mk (show vBook b = false by simp [vBook, h1, h2, h3, h4, h5])
            go_enter Tryz.func49, Tryz.ntmps49
            go_wp2_with (first | (go_at_call 81; refine (within16_c _ _ _ _).mono ?_; rintro _ w1 ⟨rfl, rfl⟩) | (go_at_call 82; refine HA.out.mono ?_; rintro _ w1 ⟨rfl, hb1⟩; have HB1 := Aside0.mk hb1; obtain ⟨hc1, hf1⟩ := bcell hb1; clear hb1))
            all_goals (go_ret; exact ⟨ret_bool HV.out.symm, bstep (balloc (Below.refl _ _) _) HB1.out⟩)
          · cases h6 : inR b.wt 1 9999
            · have HV := Aside0.mk (show vBook b = false by simp [vBook, h1, h2, h3, h4, h5, h6])
              go_enter Tryz.func49, Tryz.ntmps49
              go_wp2_with (first | (go_at_call 81; refine (within16_c _ _ _ _).mono ?_; rintro _ w1 ⟨rfl, rfl⟩) | (go_at_call 82; refine HA.out.mono ?_; rintro _ w1 ⟨rfl, hb1⟩; have HB1 := Aside0.mk hb1; obtain ⟨hc1, hf1⟩ := bcell hb1; clear hb1))
              all_goals (go_ret; exact ⟨ret_bool HV.out.symm, bstep (balloc (Below.refl _ _) _) HB1.out⟩)
            · have HV := Aside0.mk (show vBook b = true by simp [vBook, h1, h2, h3, h4, h5, h6])
              go_enter Tryz.func49, Tryz.ntmps49
              go_wp2_with (first | (go_at_call 81; refine (within16_c _ _ _ _).mono ?_; rintro _ w1 ⟨rfl, rfl⟩) | (go_at_call 82; refine HA.out.mono ?_; rintro _ w1 ⟨rfl, hb1⟩; have HB1 := Aside0.mk hb1; obtain ⟨hc1, hf1⟩ := bcell hb1; clear hb1))
              all_goals (go_ret; exact ⟨ret_bool HV.out.symm, bstep (balloc (Below.refl _ _) _) HB1.out⟩)
end Go.Proofs.YtkoaangakmpggaaGreatDoor
end
section
/- Comparing two books by an order: the program's and the reference's words up to one field. -/
namespace Go.Proofs.YtkoaangakmpggaaGreatDoor
open Go.RowKit Go.Proofs.YtkoaangakmpggaaGreatDoorW.PrintWords Go.Proofs.YtkoaangakmpggaaGreatDoorW.PrintMore
set_option linter.unusedVariables false
set_option linter.unusedSimpArgs false
set_option maxRecDepth 100000

/-- cmp.Compare of whole numbers. -/
def cmpI (x y : Int) : Int := if x < y then -1 else if y < x then 1 else 0
theorem cmpI_lt {x y : Int} (h : x < y) : cmpI x y = -1 := by unfold cmpI; rw [if_pos h]
theorem cmpI_gt {x y : Int} (h : y < x) : cmpI x y = 1 := by unfold cmpI; rw [if_neg (by omega), if_pos h]
theorem cmpI_eq {x y : Int} (h : x = y) : cmpI x y = 0 := by unfold cmpI; rw [if_neg (by omega), if_neg (by omega)]
theorem cmpI_zero {x y : Int} : cmpI x y = 0 ↔ x = y := by unfold cmpI; split <;> (try split) <;> omega
theorem cmpI_three (x y : Int) : cmpI x y = -1 ∨ cmpI x y = 0 ∨ cmpI x y = 1 := by unfold cmpI; split <;> (try split) <;> simp
/-- Three pairs of numbers, the first that differs. -/
def cmp3 (x0 x1 x2 y0 y1 y2 : Int) : Int := if x0 = y0 then (if x1 = y1 then cmpI x2 y2 else cmpI x1 y1) else cmpI x0 y0
/-- What field f of a book is: three numbers. -/
def num0 (f : Int) (b : Bk) : Int := if f = 1 then b.c else if f = 2 then b.m0 else if f = 3 then b.v else if f = 4 then b.wd else if f = 5 then b.h else b.wt
def num1 (f : Int) (b : Bk) : Int := if f = 2 then b.m1 else 0
def num2 (f : Int) (b : Bk) : Int := if f = 2 then b.m2 else 0
def fldCmp (f : Int) (a b : Bk) : Int := cmp3 (num0 f a) (num1 f a) (num2 f a) (num0 f b) (num1 f b) (num2 f b)
theorem fldCmp_one {f : Int} (h : f ≠ 2) (a b : Bk) : fldCmp f a b = cmpI (num0 f a) (num0 f b) := by
  unfold fldCmp cmp3
  rw [show num1 f a = 0 by unfold num1; rw [if_neg h], show num1 f b = 0 by unfold num1; rw [if_neg h], show num2 f a = 0 by unfold num2; rw [if_neg h], show num2 f b = 0 by unfold num2; rw [if_neg h], if_pos rfl]
  by_cases e : num0 f a = num0 f b
  · rw [if_pos e, cmpI_eq e]; rfl
  · rw [if_neg e]
/-- A number without its sign, at eight bits. -/
def absF (f : Int) : Int := if f < 0 then (if f = -128 then -128 else -f) else f
def I8 (x : Int) : Prop := -128 ≤ x ∧ x ≤ 127
theorem wrap8neg {n : Int} (h : I8 n) : IntKind.i8.wrap (-n) = if n = -128 then -128 else -n := by
  obtain ⟨h1, h2⟩ := h
  by_cases e : n = -128
  · subst e; decide
  · rw [if_neg e]; simp only [IntKind.wrap, IntKind.bits, IntKind.signed, Bool.true_and, decide_eq_true_eq, ge_iff_le]; split <;> omega
theorem field_c (n : Int) (h : I8 n) (w : World) : Calls Tryz.prog 51 #[.int .i8 n] w (RetS w (.int .i8 (absF n))) := by
  have HW := Aside0.mk (wrap8neg h)
  obtain ⟨h1, h2⟩ := h
  go_enter Tryz.func51, Tryz.ntmps51
  go_wp2
  all_goals (go_ret; refine ⟨ret_int ?_, rfl⟩; unfold absF; have hw := HW.out; (repeat' split at *) <;> omega)
theorem l01Field_c (n : Int) (h : I8 n) (w : World) : Calls Tryz.prog 62 #[.int .i8 n] w (RetS w (.int .i8 (absF n))) := by
  have HW := Aside0.mk (wrap8neg h)
  obtain ⟨h1, h2⟩ := h
  go_enter Tryz.func62, Tryz.ntmps62
  go_wp2
  all_goals (go_ret; refine ⟨ret_int ?_, rfl⟩; unfold absF; have hw := HW.out; (repeat' split at *) <;> omega)
theorem isNaN16_c (n : Int) (w : World) : Calls Tryz.prog 110 #[.int .i16 n] w (RetS w (.bool false)) := by
  go_enter Tryz.func110, Tryz.ntmps110
  go_wp2
  all_goals (go_ret; exact ⟨rfl, rfl⟩)
theorem isNaN8_c (n : Int) (w : World) : Calls Tryz.prog 122 #[.int .u8 n] w (RetS w (.bool false)) := by
  go_enter Tryz.func122, Tryz.ntmps122
  go_wp2
  all_goals (go_ret; exact ⟨rfl, rfl⟩)
theorem cmp16_c (x y : Int) (w : World) : Calls Tryz.prog 87 #[.int .i16 x, .int .i16 y] w (RetS w (.int .i64 (cmpI x y))) := by
  go_enter Tryz.func87, Tryz.ntmps87
  go_wp2_with (go_at_call 110; refine (isNaN16_c _ _).mono ?_; rintro _ w1 ⟨rfl, rfl⟩)
  all_goals (go_ret; refine ⟨ret_int ?_, rfl⟩; unfold cmpI; split <;> (try split) <;> omega)
theorem cmp8_c (x y : Int) (w : World) : Calls Tryz.prog 111 #[.int .u8 x, .int .u8 y] w (RetS w (.int .i64 (cmpI x y))) := by
  go_enter Tryz.func111, Tryz.ntmps111
  go_wp2_with (go_at_call 122; refine (isNaN8_c _ _).mono ?_; rintro _ w1 ⟨rfl, rfl⟩)
  all_goals (go_ret; refine ⟨ret_int ?_, rfl⟩; unfold cmpI; split <;> (try split) <;> omega)
end Go.Proofs.YtkoaangakmpggaaGreatDoor
end
section
/- Comparing two books by one field and by an order: the program's. -/
namespace Go.Proofs.YtkoaangakmpggaaGreatDoor
open Go.RowKit Go.Proofs.YtkoaangakmpggaaGreatDoorW.PrintWords Go.Proofs.YtkoaangakmpggaaGreatDoorW.PrintMore
set_option linter.unusedVariables false
set_option linter.unusedSimpArgs false
set_option maxRecDepth 100000

theorem at_three {W : World} {A : Option Addr} {x y z : Int} (h : (Kd.int .u8).C W A 3 [x, y, z]) : ∃ ad, A = some ad ∧ W.cell? ad = some (.int .u8 x) ∧ W.cell? ⟨ad.block, ad.off + 1, none⟩ = some (.int .u8 y) ∧ W.cell? ⟨ad.block, ad.off + 2, none⟩ = some (.int .u8 z) := by
  obtain ⟨ad, e0, e, h0, c0⟩ := at_int' h 0 (by omega)
  obtain ⟨ad1, e1, f1, h1, c1⟩ := at_int' h 1 (by omega)
  obtain ⟨ad2, e2, f2, h2, c2⟩ := at_int' h 2 (by omega)
  subst e
  injection f1 with f1; subst f1
  injection f2 with f2; subst f2
  have a0 := h0.out; have a1 := h1.out; have a2 := h2.out
  simp only [List.getElem?_cons_zero, List.getElem?_cons_succ, Option.some.injEq] at a0 a1 a2
  subst a0 a1 a2
  exact ⟨ad, rfl, c0, c1, c2⟩
theorem BkAt.mark_C {W : World} {g o : Nat} {b : Bk} (h : BkAt W ⟨g, o, none⟩ b) : (Kd.int .u8).C W (some ⟨g, o + 1, none⟩) 3 [b.m0, b.m1, b.m2] :=
  marks_C W g (o + 1) b.m0 b.m1 b.m2 h.c1 h.c2 h.c3
set_option maxHeartbeats 2000000 in
theorem compare3_c (A A' : Option Addr) (c c' : Nat) (x0 x1 x2 y0 y1 y2 : Int) (w : World) (hL : (Kd.int .u8).C w A 3 [x0, x1, x2]) (hL' : (Kd.int .u8).C w A' 3 [y0, y1, y2]) :
    Calls Tryz.prog 88 #[.slice A 3 c, .slice A' 3 c'] w (RetS w (.int .i64 (cmp3 x0 x1 x2 y0 y1 y2))) := by
  obtain ⟨ad, rfl, a0, a1, a2⟩ := at_three hL
  obtain ⟨bd, rfl, b0, b1, b2⟩ := at_three hL'
  clear hL hL'
  by_cases e0 : x0 = y0
  · have q0 : (cmpI x0 y0 != 0) = false := by rw [cmpI_eq e0]; rfl
    by_cases e1 : x1 = y1
    · have q1 : (cmpI x1 y1 != 0) = false := by rw [cmpI_eq e1]; rfl
      have HV := Aside0.mk (show cmp3 x0 x1 x2 y0 y1 y2 = cmpI x2 y2 by unfold cmp3; rw [if_pos e0, if_pos e1])
      by_cases e2 : x2 = y2
      · have q2 : (cmpI x2 y2 != 0) = false := by rw [cmpI_eq e2]; rfl
        have HZ := Aside0.mk (cmpI_eq e2)
        clear e0 e1 e2
        go_enter Tryz.func88, Tryz.ntmps88
        go_wp2
        refine wp_loop_rounds 4 ?_
        iterate 4 (rw [rounds_succ]; go_wp2_with (go_at_call 111; refine (cmp8_c _ _ _).mono ?_; rintro _ w1 ⟨rfl, rfl⟩))
        go_ret
        exact ⟨ret_int (by rw [HV.out, HZ.out]), rfl⟩
      · have q2 : (cmpI x2 y2 != 0) = true := by simp; exact fun h => e2 (cmpI_zero.1 h)
        clear e0 e1 e2
        go_enter Tryz.func88, Tryz.ntmps88
        go_wp2
        refine wp_loop_rounds 3 ?_
        iterate 3 (rw [rounds_succ]; go_wp2_with (go_at_call 111; refine (cmp8_c _ _ _).mono ?_; rintro _ w1 ⟨rfl, rfl⟩))
        go_ret
        exact ⟨ret_int HV.out.symm, rfl⟩
    · have q1 : (cmpI x1 y1 != 0) = true := by simp; exact fun h => e1 (cmpI_zero.1 h)
      have HV := Aside0.mk (show cmp3 x0 x1 x2 y0 y1 y2 = cmpI x1 y1 by unfold cmp3; rw [if_pos e0, if_neg e1])
      clear e0 e1
      go_enter Tryz.func88, Tryz.ntmps88
      go_wp2
      refine wp_loop_rounds 2 ?_
      iterate 2 (rw [rounds_succ]; go_wp2_with (go_at_call 111; refine (cmp8_c _ _ _).mono ?_; rintro _ w1 ⟨rfl, rfl⟩))
      go_ret
      exact ⟨ret_int HV.out.symm, rfl⟩
  · have q0 : (cmpI x0 y0 != 0) = true := by simp; exact fun h => e0 (cmpI_zero.1 h)
    have HV := Aside0.mk (show cmp3 x0 x1 x2 y0 y1 y2 = cmpI x0 y0 by unfold cmp3; rw [if_neg e0])
    clear e0
    go_enter Tryz.func88, Tryz.ntmps88
    go_wp2
    refine wp_loop_rounds 1 ?_
    iterate 1 (rw [rounds_succ]; go_wp2_with (go_at_call 111; refine (cmp8_c _ _ _).mono ?_; rintro _ w1 ⟨rfl, rfl⟩))
    go_ret
    exact ⟨ret_int HV.out.symm, rfl⟩

set_option maxHeartbeats 2000000 in
theorem compareIn_c (f : Int) (a b : Bk) (w : World) : Calls Tryz.prog 61 #[.int .i8 f, a.val, b.val] w (Ret w (.int .i64 (fldCmp f a b))) := by
  have HA := Aside0.mk (BkAt.below (BkAt.box w a 44) (balloc (Below.refl _ _) (.cells #[.int .i16 b.c, .int .u8 b.m0, .int .u8 b.m1, .int .u8 b.m2, .int .i16 b.v, .int .i16 b.wd, .int .i16 b.h, .int .i16 b.wt] 44)))
  have HB := Aside0.mk (BkAt.box (w.alloc (.cells #[.int .i16 a.c, .int .u8 a.m0, .int .u8 a.m1, .int .u8 a.m2, .int .i16 a.v, .int .i16 a.wd, .int .i16 a.h, .int .i16 a.wt] 44)) b 44)
  simp only [Bk.val]
  by_cases e2 : f = 2
  · subst e2
    have HV := Aside0.mk (show fldCmp 2 a b = cmp3 a.m0 a.m1 a.m2 b.m0 b.m1 b.m2 from rfl)
    have hA := (BkAt.below HA.out (Below.refl _ _).drew).mark_C
    have hB := (BkAt.below HB.out (Below.refl _ _).drew).mark_C
    simp only [World.size_alloc] at hB
    have HC := Aside0.mk (fun c c' => compare3_c _ _ c c' _ _ _ _ _ _ _ hA hB)
    clear hA hB
    go_enter Tryz.func61, Tryz.ntmps61
    go_wp2_with fail
    go_still_tail 4, (by kernel_rfl)
    go_wp2_with fail
    refine (HC.out _ _).mono ?_; rintro _ w1 ⟨rfl, rfl⟩
    go_wp2_with fail
    go_ret
    exact ⟨ret_int HV.out.symm, bdrew (balloc (balloc (Below.refl _ _) _) _)⟩
  · have HV := Aside0.mk (fldCmp_one e2 a b)
    have n2 : (f == 2) = false := by simpa using e2
    clear e2
    by_cases e1 : f = 1
    · subst e1
      go_enter Tryz.func61, Tryz.ntmps61
      go_wp2_with (go_at_call 87; refine (cmp16_c _ _ _).mono ?_; rintro _ w1 ⟨rfl, rfl⟩)
      go_ret
      exact ⟨ret_int HV.out.symm, balloc (balloc (Below.refl _ _) _) _⟩
    · by_cases e3 : f = 3
      · subst e3
        go_enter Tryz.func61, Tryz.ntmps61
        go_wp2_with (go_at_call 87; refine (cmp16_c _ _ _).mono ?_; rintro _ w1 ⟨rfl, rfl⟩)
        go_ret
        exact ⟨ret_int HV.out.symm, balloc (balloc (Below.refl _ _) _) _⟩
      · by_cases e4 : f = 4
        · subst e4
          go_enter Tryz.func61, Tryz.ntmps61
          go_wp2_with (go_at_call 87; refine (cmp16_c _ _ _).mono ?_; rintro _ w1 ⟨rfl, rfl⟩)
          go_ret
          exact ⟨ret_int HV.out.symm, balloc (balloc (Below.refl _ _) _) _⟩
        · by_cases e5 : f = 5
          · subst e5
            go_enter Tryz.func61, Tryz.ntmps61
            go_wp2_with (go_at_call 87; refine (cmp16_c _ _ _).mono ?_; rintro _ w1 ⟨rfl, rfl⟩)
            go_ret
            exact ⟨ret_int HV.out.symm, balloc (balloc (Below.refl _ _) _) _⟩
          · have HE := Aside0.mk (show num0 f a = a.wt ∧ num0 f b = b.wt by unfold num0; simp [e1, e3, e4, e5]; simp at n2; simp [n2])
            have n1 : (f == 1) = false := by simpa using e1
            have n3 : (f == 3) = false := by simpa using e3
            have n4 : (f == 4) = false := by simpa using e4
            have n5 : (f == 5) = false := by simpa using e5
            clear e1 e3 e4 e5
            go_enter Tryz.func61, Tryz.ntmps61
            go_wp2_with (go_at_call 87; refine (cmp16_c _ _ _).mono ?_; rintro _ w1 ⟨rfl, rfl⟩)
            go_ret
            exact ⟨ret_int (by rw [HV.out, HE.out.1, HE.out.2]), balloc (balloc (Below.refl _ _) _) _⟩
end Go.Proofs.YtkoaangakmpggaaGreatDoor
end
section
/- Comparing two books by an order: the program's. -/
namespace Go.Proofs.YtkoaangakmpggaaGreatDoor
open Go.RowKit Go.Proofs.YtkoaangakmpggaaGreatDoorW.PrintWords Go.Proofs.YtkoaangakmpggaaGreatDoorW.PrintMore
set_option linter.unusedVariables false
set_option linter.unusedSimpArgs false
set_option maxRecDepth 100000

theorem cmp3_three (x0 x1 x2 y0 y1 y2 : Int) : cmp3 x0 x1 x2 y0 y1 y2 = -1 ∨ cmp3 x0 x1 x2 y0 y1 y2 = 0 ∨ cmp3 x0 x1 x2 y0 y1 y2 = 1 := by
  unfold cmp3
  split
  · split
    · exact cmpI_three _ _
    · exact cmpI_three _ _
  · exact cmpI_three _ _
def sgnCmp (f : Int) (a b : Bk) : Int := if f < 0 then -fldCmp (absF f) a b else fldCmp (absF f) a b
def cmpBy : List Int → Bk → Bk → Int
  | [], _, _ => 0
  | f :: r, a, b => if sgnCmp f a b = 0 then cmpBy r a b else sgnCmp f a b
theorem cmpBy_eq {L : List Int} {k : Nat} {x : Int} {a b : Bk} (h : L[k]? = some x) (hz : sgnCmp x a b = 0) : cmpBy (L.drop (k + 1)) a b = cmpBy (L.drop k) a b := by
  obtain ⟨hl, he⟩ := List.getElem?_eq_some_iff.1 h
  rw [List.drop_eq_getElem_cons hl, he, cmpBy, if_pos hz]
theorem cmpBy_ne {L : List Int} {k : Nat} {x : Int} {a b : Bk} (h : L[k]? = some x) (hz : sgnCmp x a b ≠ 0) : cmpBy (L.drop k) a b = sgnCmp x a b := by
  obtain ⟨hl, he⟩ := List.getElem?_eq_some_iff.1 h
  rw [List.drop_eq_getElem_cons hl, he, cmpBy, if_neg hz]
set_option maxHeartbeats 4000000 in
theorem compareBy_c (A : Option Addr) (c : Nat) (L : List Int) (a b : Bk) (w : World) (hL : (Kd.int .i8).C w A L.length L) (hk : ∀ x ∈ L, I8 x) :
    Calls Tryz.prog 35 #[.slice A L.length c, a.val, b.val] w (Ret w (.int .i64 (cmpBy L a b))) := by
  have hm := Kd.C_max hL
  have HL := Aside0.mk hL
  have HKK := Aside0.mk hk
  clear hL hk
  have HX := Aside0.mk (fun f W => compareIn_c f a b W)
  simp only [Bk.val] at HX ⊢
  have hx0 : ∀ W, Below ((w.alloc (.cells #[.int .i16 a.c, .int .u8 a.m0, .int .u8 a.m1, .int .u8 a.m2, .int .i16 a.v, .int .i16 a.wd, .int .i16 a.h, .int .i16 a.wt] 44)).alloc (.cells #[.int .i16 b.c, .int .u8 b.m0, .int .u8 b.m1, .int .u8 b.m2, .int .i16 b.v, .int .i16 b.wd, .int .i16 b.h, .int .i16 b.wt] 44)).heap.size ((w.alloc (.cells #[.int .i16 a.c, .int .u8 a.m0, .int .u8 a.m1, .int .u8 a.m2, .int .i16 a.v, .int .i16 a.wd, .int .i16 a.h, .int .i16 a.wt] 44)).alloc (.cells #[.int .i16 b.c, .int .u8 b.m0, .int .u8 b.m1, .int .u8 b.m2, .int .i16 b.v, .int .i16 b.wd, .int .i16 b.h, .int .i16 b.wt] 44)) W → Below w.heap.size w W ∧ BkAt W ⟨w.heap.size, 0, none⟩ a ∧ BkAt W ⟨w.heap.size + 1, 0, none⟩ b := by
    intro W h
    have hb := BkAt.box (w.alloc (.cells #[.int .i16 a.c, .int .u8 a.m0, .int .u8 a.m1, .int .u8 a.m2, .int .i16 a.v, .int .i16 a.wd, .int .i16 a.h, .int .i16 a.wt] 44)) b 44
    simp only [World.size_alloc] at hb
    exact ⟨bstep (balloc (balloc (Below.refl _ _) _) _) h, ((BkAt.box w a 44).below (balloc (Below.refl _ _) _)).below h, hb.below h⟩
  have HW := Aside0.mk hx0
  clear hx0
  go_enter Tryz.func35, Tryz.ntmps35
  go_wp2
  generalize hW0 : World.alloc (World.alloc w _) _ = W0 at HW ⊢
  have hz0 : W0.heap.size = w.heap.size + 2 := by rw [← hW0]; simp
  clear hW0
  go_loopg [12] L.length (fun gk v wr => ∃ k : Nat, k + gk = L.length ∧ v = .int .i64 k ∧ Aside0 (cmpBy (L.drop k) a b = cmpBy L a b) ∧ Aside0 (Below W0.heap.size W0 wr))
  case atStart => exact ⟨0, by omega, rfl, ⟨by simp⟩, ⟨Below.refl _ _⟩⟩
  case round =>
    obtain ⟨k, hk, rfl, hp, hb⟩ := hrel
    have HK := Aside0.mk hk
    obtain ⟨hbw, ha, hbb⟩ := HW.out _ hb.out
    have HBW := Aside0.mk hbw
    by_cases hlt : k < L.length
    · obtain ⟨ad, x, rfl, hx, hc⟩ := at_int' (Kd.C_below HL.out hbw) k (by omega)
      have HF := Aside0.mk (field_c x (HKK.out x (mem_of hx.out)))
      obtain ⟨p0, p1, p2, p3, p4, p5, p6, p7⟩ := ha
      obtain ⟨q0, q1, q2, q3, q4, q5, q6, q7⟩ := hbb
      clear hk hbw
      have i0 : (0 : Int) ≤ (k : Int) := by omega
      have i1 : (k : Int) < (L.length : Int) := by omega
      have HV := HX.out (absF x)
      go_wp2_with fail
      refine wp_region_still_tail 4 (by kernel_rfl) (by kernel_rfl) ?_
      simp only [List.take_succ_cons, List.take_zero, List.drop_succ_cons, List.drop_zero]
      still_step
      still_call ((HF.out _).mono (fun _ _ h => ⟨h.1, h.2.symm⟩))
      repeat still_step
      refine wpStill_nil ?_
      go_wp2_with fail
      refine (HV _).mono ?_; rintro _ w1 ⟨rfl, hb1⟩
      clear HV p0 p1 p2 p3 p4 p5 p6 p7 q0 q1 q2 q3 q4 q5 q6 q7 hc
      have HB1 := Aside0.mk (bstep (bdrew HBW.out) hb1)
      have HB2 := Aside0.mk (bstep (bdrew hb.out) hb1)
      clear hb1
      have h3 := cmp3_three (num0 (absF x) a) (num1 (absF x) a) (num2 (absF x) a) (num0 (absF x) b) (num1 (absF x) b) (num2 (absF x) b)
      rw [show cmp3 (num0 (absF x) a) (num1 (absF x) a) (num2 (absF x) a) (num0 (absF x) b) (num1 (absF x) b) (num2 (absF x) b) = fldCmp (absF x) a b from rfl] at h3
      by_cases hs : x < 0
      · rcases h3 with h3 | h3 | h3
        · have HR := Aside0.mk (show cmpBy L a b = 1 by rw [← hp.out, cmpBy_ne hx.out (by unfold sgnCmp; rw [if_pos hs, h3]; decide)]; unfold sgnCmp; rw [if_pos hs, h3]; rfl)
          rw [h3]
          clear h3
          go_wp2
          go_ret
          exact ⟨ret_int HR.out.symm, HB1.out⟩
        · have HR := Aside0.mk (show cmpBy (L.drop (k + 1)) a b = cmpBy L a b by rw [← hp.out, cmpBy_eq hx.out (by unfold sgnCmp; rw [if_pos hs, h3]; decide)])
          rw [h3]
          clear h3
          go_wp2
          go_roundg (gk - 1)
          case measure => have := HK.out; omega
          case rel => exact ⟨k + 1, by have := HK.out; omega, by go_num, HR, HB2⟩
        · have HR := Aside0.mk (show cmpBy L a b = -1 by rw [← hp.out, cmpBy_ne hx.out (by unfold sgnCmp; rw [if_pos hs, h3]; decide)]; unfold sgnCmp; rw [if_pos hs, h3])
          rw [h3]
          clear h3
          go_wp2
          go_ret
          exact ⟨ret_int HR.out.symm, HB1.out⟩
      · rcases h3 with h3 | h3 | h3
        · have HR := Aside0.mk (show cmpBy L a b = -1 by rw [← hp.out, cmpBy_ne hx.out (by unfold sgnCmp; rw [if_neg hs, h3]; decide)]; unfold sgnCmp; rw [if_neg hs, h3])
          rw [h3]
          clear h3
          go_wp2
          go_ret
          exact ⟨ret_int HR.out.symm, HB1.out⟩
        · have HR := Aside0.mk (show cmpBy (L.drop (k + 1)) a b = cmpBy L a b by rw [← hp.out, cmpBy_eq hx.out (by unfold sgnCmp; rw [if_neg hs, h3])])
          rw [h3]
          clear h3
          go_wp2
          go_roundg (gk - 1)
          case measure => have := HK.out; omega
          case rel => exact ⟨k + 1, by have := HK.out; omega, by go_num, HR, HB2⟩
        · have HR := Aside0.mk (show cmpBy L a b = 1 by rw [← hp.out, cmpBy_ne hx.out (by unfold sgnCmp; rw [if_neg hs, h3]; decide)]; unfold sgnCmp; rw [if_neg hs, h3])
          rw [h3]
          clear h3
          go_wp2
          go_ret
          exact ⟨ret_int HR.out.symm, HB1.out⟩
    · have HR := Aside0.mk (show cmpBy L a b = 0 by rw [← hp.out, List.drop_eq_nil_of_le (by omega)]; rfl)
      clear hk
      go_wp2
      go_ret
      exact ⟨ret_int HR.out.symm, HBW.out⟩
end Go.Proofs.YtkoaangakmpggaaGreatDoor
end
section
/- Comparing two books in the usual order: the program's. -/
namespace Go.Proofs.YtkoaangakmpggaaGreatDoor
open Go.RowKit Go.Proofs.YtkoaangakmpggaaGreatDoorW.PrintWords Go.Proofs.YtkoaangakmpggaaGreatDoorW.PrintMore
set_option linter.unusedVariables false
set_option linter.unusedSimpArgs false
set_option maxRecDepth 100000

theorem three_C (W : World) (g o : Nat) (x y z : Int) (h0 : W.cell? ⟨g, o, none⟩ = some (.int .i8 x)) (h1 : W.cell? ⟨g, o + 1, none⟩ = some (.int .i8 y)) (h2 : W.cell? ⟨g, o + 2, none⟩ = some (.int .i8 z)) :
    (Kd.int .i8).C W (some ⟨g, o, none⟩) [x, y, z].length [x, y, z] := by
  refine ⟨rfl, by simp, fun _ => ⟨_, rfl, fun j p hj => ?_⟩⟩
  match j, hj with
  | 0, hj => cases hj; exact ⟨_, rfl, rfl, fun i u hu => by match i, hu with | 0, hu => cases hu; simpa [Addr.add] using h0⟩
  | 1, hj => cases hj; exact ⟨_, rfl, rfl, fun i u hu => by match i, hu with | 0, hu => cases hu; simpa [Addr.add, Kd.int, Kd.scalar] using h1⟩
  | 2, hj => cases hj; exact ⟨_, rfl, rfl, fun i u hu => by match i, hu with | 0, hu => cases hu; simpa [Addr.add, Kd.int, Kd.scalar] using h2⟩
def usualL : List Int := [1, 2, 3]
theorem usualL_ok : ∀ x ∈ usualL, I8 x := by
  intro x hx
  simp only [usualL, List.mem_cons, List.not_mem_nil, or_false] at hx
  unfold I8
  omega
def cmpU (a b : Bk) : Int := cmpBy usualL a b
def IsUsual (v : Value) (W : World) : Prop := ∃ n, v = .slice (some ⟨n, 0, none⟩) 3 3 ∧ (Kd.int .i8).C W (some ⟨n, 0, none⟩) usualL.length usualL
theorem usual_c (w : World) : Calls Tryz.prog 77 #[] w (RetQ w IsUsual) := by
  go_enter Tryz.func77, Tryz.ntmps77
  go_wp2
  go_ret
  exact ⟨_, rfl, balloc (Below.refl _ _) _, _, rfl, three_C _ _ 0 1 2 3 ((blk_cell (blk_new w _) 0).trans rfl) ((blk_cell (blk_new w _) 1).trans rfl) ((blk_cell (blk_new w _) 2).trans rfl)⟩
theorem box_two (w : World) (a b : Bk) : ∀ W, Below ((w.alloc (.cells #[.int .i16 a.c, .int .u8 a.m0, .int .u8 a.m1, .int .u8 a.m2, .int .i16 a.v, .int .i16 a.wd, .int .i16 a.h, .int .i16 a.wt] 44)).alloc (.cells #[.int .i16 b.c, .int .u8 b.m0, .int .u8 b.m1, .int .u8 b.m2, .int .i16 b.v, .int .i16 b.wd, .int .i16 b.h, .int .i16 b.wt] 44)).heap.size ((w.alloc (.cells #[.int .i16 a.c, .int .u8 a.m0, .int .u8 a.m1, .int .u8 a.m2, .int .i16 a.v, .int .i16 a.wd, .int .i16 a.h, .int .i16 a.wt] 44)).alloc (.cells #[.int .i16 b.c, .int .u8 b.m0, .int .u8 b.m1, .int .u8 b.m2, .int .i16 b.v, .int .i16 b.wd, .int .i16 b.h, .int .i16 b.wt] 44)) W → Below w.heap.size w W ∧ BkAt W ⟨w.heap.size, 0, none⟩ a ∧ BkAt W ⟨w.heap.size + 1, 0, none⟩ b := by
  intro W h
  have hb := BkAt.box (w.alloc (.cells #[.int .i16 a.c, .int .u8 a.m0, .int .u8 a.m1, .int .u8 a.m2, .int .i16 a.v, .int .i16 a.wd, .int .i16 a.h, .int .i16 a.wt] 44)) b 44
  simp only [World.size_alloc] at hb
  exact ⟨bstep (balloc (balloc (Below.refl _ _) _) _) h, ((BkAt.box w a 44).below (balloc (Below.refl _ _) _)).below h, hb.below h⟩
set_option maxHeartbeats 4000000 in
theorem compare_c (a b : Bk) (w : World) : Calls Tryz.prog 43 #[a.val, b.val] w (Ret w (.int .i64 (cmpU a b))) := by
  have HX := Aside0.mk (fun A c W h => compareBy_c A c usualL a b W h usualL_ok)
  have HW := Aside0.mk (box_two w a b)
  simp only [Bk.val] at HX ⊢
  go_enter Tryz.func43, Tryz.ntmps43
  go_wp2_with fail
  generalize hW0 : World.alloc (World.alloc w _) _ = W0 at HW ⊢
  have hz0 : W0.heap.size = w.heap.size + 2 := by rw [← hW0]; simp
  clear hW0
  obtain ⟨hbw, ha, hbb⟩ := HW.out _ (Below.refl _ _)
  obtain ⟨p0, p1, p2, p3, p4, p5, p6, p7⟩ := ha
  obtain ⟨q0, q1, q2, q3, q4, q5, q6, q7⟩ := hbb
  have HBW := Aside0.mk hbw
  clear hbw
  go_region_with (first
    | (go_at_call 77; refine (usual_c _).mono ?_; rintro _ w1 ⟨v, rfl, hb1, n, rfl, hv⟩; have hb1' := hb1; obtain ⟨hc1, hf1⟩ := bcell hb1)
    | (go_at_call 35; refine (HX.out _ _ _ ‹_›).mono ?_; rintro _ w2 ⟨rfl, hb2⟩))
  all_goals (go_wp2_with fail; go_ret; exact ⟨rfl, bstep (bstep (bdrew HBW.out) hb1) hb2⟩)
end Go.Proofs.YtkoaangakmpggaaGreatDoor
end
section
/- Stable sorting in plain lists: sorted lists of the same elements are the same; insertion, rotation, merging by halves. No condition. -/
namespace Go.Proofs.YtkoaangakmpggaaGreatDoor.Srt
set_option linter.unusedVariables false
set_option linter.unusedSimpArgs false
variable {α : Type}
/-- A weak order, as a test. -/
structure Wk (lt : α → α → Bool) : Prop where
  asym : ∀ x y, lt x y = true → lt y x = false
  ntr : ∀ x y z, lt x y = false → lt y z = false → lt x z = false
def eqv (lt : α → α → Bool) (c x : α) : Bool := !lt c x && !lt x c
/-- The same elements, equal ones in the same order. -/
def Stab (lt : α → α → Bool) (L L' : List α) : Prop := ∀ c, L.filter (eqv lt c) = L'.filter (eqv lt c)
def Up (lt : α → α → Bool) (L : List α) : Prop := L.Pairwise (fun x y => lt y x = false)
theorem Stab.refl (lt : α → α → Bool) (L : List α) : Stab lt L L := fun _ => rfl
theorem Stab.trans {lt : α → α → Bool} {A B C : List α} (h : Stab lt A B) (k : Stab lt B C) : Stab lt A C := fun c => (h c).trans (k c)
theorem Stab.symm {lt : α → α → Bool} {A B : List α} (h : Stab lt A B) : Stab lt B A := fun c => (h c).symm
theorem Stab.app {lt : α → α → Bool} {A B C D : List α} (h : Stab lt A B) (k : Stab lt C D) : Stab lt (A ++ C) (B ++ D) := fun c => by
  rw [List.filter_append, List.filter_append, h c, k c]
theorem Wk.irr {lt : α → α → Bool} (h : Wk lt) (x : α) : lt x x = false := by
  cases e : lt x x
  · rfl
  · have := h.asym x x e; rw [e] at this; exact this
theorem Wk.tr {lt : α → α → Bool} (h : Wk lt) {x y z : α} (h1 : lt x y = true) (h2 : lt y z = true) : lt x z = true := by
  cases e : lt x z
  · have := h.ntr x z y e (h.asym y z h2); rw [h1] at this; cases this
  · rfl
theorem Wk.tr1 {lt : α → α → Bool} (h : Wk lt) {x y z : α} (h1 : lt x y = true) (h2 : lt z y = false) : lt x z = true := by
  cases e : lt x z
  · have := h.ntr x z y e h2; rw [h1] at this; cases this
  · rfl
theorem Wk.tr2 {lt : α → α → Bool} (h : Wk lt) {x y z : α} (h1 : lt y x = false) (h2 : lt y z = true) : lt x z = true := by
  cases e : lt x z
  · have := h.ntr y x z h1 e; rw [h2] at this; cases this
  · rfl
theorem eqv_self {lt : α → α → Bool} (h : Wk lt) (x : α) : eqv lt x x = true := by simp [eqv, h.irr]
/-- Two blocks change places: each element behind is below each one ahead. -/
theorem stab_blocks {lt : α → α → Bool} (h : Wk lt) {X Y : List α} (hs : ∀ x, x ∈ X → ∀ y, y ∈ Y → lt y x = true) : Stab lt (X ++ Y) (Y ++ X) := by
  intro c
  rw [List.filter_append, List.filter_append]
  by_cases hx : X.filter (eqv lt c) = []
  · rw [hx]; simp
  · by_cases hy : Y.filter (eqv lt c) = []
    · rw [hy]; simp
    · exfalso
      obtain ⟨x, hx'⟩ := List.exists_mem_of_ne_nil _ hx
      obtain ⟨y, hy'⟩ := List.exists_mem_of_ne_nil _ hy
      rw [List.mem_filter] at hx' hy'
      have h1 := hs x hx'.1 y hy'.1
      have h2 := hx'.2
      have h3 := hy'.2
      simp only [eqv, Bool.and_eq_true, Bool.not_eq_true'] at h2 h3
      have h4 := h.ntr y c x h3.2 h2.1
      rw [h1] at h4; cases h4
/-- Sorted lists of the same elements are the same. -/
theorem up_unique {lt : α → α → Bool} (h : Wk lt) : ∀ (L L' : List α), Up lt L → Up lt L' → Stab lt L L' → L = L' := by
  intro L
  induction L with
  | nil =>
    intro L' _ _ hs
    cases L' with
    | nil => rfl
    | cons y L' =>
      have := hs y
      rw [List.filter_cons_of_pos (eqv_self h y)] at this
      cases this
  | cons x L ih =>
    intro L' hu hu' hs
    cases L' with
    | nil =>
      have := hs x
      rw [List.filter_cons_of_pos (eqv_self h x)] at this
      cases this
    | cons y L' =>
      have hxm : x ∈ y :: L' := by
        have : x ∈ (y :: L').filter (eqv lt x) := by rw [← hs x, List.filter_cons_of_pos (eqv_self h x)]; exact List.mem_cons_self
        exact (List.mem_filter.1 this).1
      have hym : y ∈ x :: L := by
        have : y ∈ (x :: L).filter (eqv lt y) := by rw [hs y, List.filter_cons_of_pos (eqv_self h y)]; exact List.mem_cons_self
        exact (List.mem_filter.1 this).1
      have h1 : lt x y = false := by
        rcases List.mem_cons.1 hxm with rfl | hm
        · exact h.irr _
        · exact (List.pairwise_cons.1 hu').1 x hm
      have h2 : lt y x = false := by
        rcases List.mem_cons.1 hym with rfl | hm
        · exact h.irr _
        · exact (List.pairwise_cons.1 hu).1 y hm
      have hxy : x = y := by
        have := hs x
        rw [List.filter_cons_of_pos (eqv_self h x), List.filter_cons_of_pos (by simp [eqv, h1, h2])] at this
        injection this
      subst hxy
      congr 1
      refine ih L' (List.pairwise_cons.1 hu).2 (List.pairwise_cons.1 hu').2 (fun c => ?_)
      have := hs c
      rw [List.filter_cons, List.filter_cons] at this
      split at this
      · injection this
      · exact this
theorem Stab.length {lt : α → α → Bool} (h : Wk lt) : ∀ {L L' : List α}, Stab lt L L' → L.length = L'.length := by
  intro L
  induction L with
  | nil =>
    intro L' hs
    cases L' with
    | nil => rfl
    | cons y L' =>
      have := hs y
      rw [List.filter_cons_of_pos (eqv_self h y)] at this
      cases this
  | cons x L ih =>
    intro L' hs
    have hx := hs x
    rw [List.filter_cons_of_pos (eqv_self h x)] at hx
    have hm : x ∈ L' := by
      have : x ∈ L'.filter (eqv lt x) := by rw [← hx]; exact List.mem_cons_self
      exact (List.mem_filter.1 this).1
    -- the first element of the class of x in L'
    obtain ⟨A, B, hAB, hA⟩ : ∃ A B, L' = A ++ x :: B ∧ ∀ a, a ∈ A → eqv lt x a = false := by
      clear ih hs hm
      induction L' with
      | nil => simp at hx
      | cons y L' ih =>
        cases e : eqv lt x y with
        | true =>
          rw [List.filter_cons_of_pos e] at hx
          injection hx with h1 h2
          subst h1
          exact ⟨[], L', rfl, fun a ha => by cases ha⟩
        | false =>
          rw [List.filter_cons_of_neg (by simp [e])] at hx
          obtain ⟨A, B, h1, h2⟩ := ih hx
          exact ⟨y :: A, B, by rw [h1]; rfl, fun a ha => by rcases List.mem_cons.1 ha with rfl | ha; exact e; exact h2 a ha⟩
    subst hAB
    have : Stab lt L (A ++ B) := fun c => by
      have hc := hs c
      rw [List.filter_append] at hc
      cases e : eqv lt c x with
      | false =>
        rw [List.filter_cons_of_neg (by simp [e]), List.filter_cons_of_neg (by simp [e])] at hc
        rw [hc, List.filter_append]
      | true =>
        have hAc : A.filter (eqv lt c) = [] := by
          rw [List.filter_eq_nil_iff]
          intro a ha
          have h1 := hA a ha
          intro h2
          simp only [eqv, Bool.and_eq_true, Bool.not_eq_true', Bool.and_eq_false_iff, Bool.not_eq_false'] at e h1 h2
          rcases h1 with h1 | h1
          · have := h.ntr x c a e.2 h2.1; rw [h1] at this; cases this
          · have := h.ntr a c x h2.2 e.1; rw [h1] at this; cases this
        rw [hAc, List.nil_append, List.filter_cons_of_pos e, List.filter_cons_of_pos e] at hc
        injection hc with _ hc
        rw [List.filter_append, hAc, List.nil_append, hc]
    have := ih this
    simp only [List.length_append, List.length_cons] at this ⊢
    omega
theorem Stab.mem {lt : α → α → Bool} (h : Wk lt) {L L' : List α} (hs : Stab lt L L') (x : α) : x ∈ L ↔ x ∈ L' := by
  have a := hs x
  have b : ∀ M : List α, x ∈ M ↔ x ∈ M.filter (eqv lt x) := fun M => by rw [List.mem_filter]; simp [eqv_self h]
  rw [b L, b L', a]
/-- Two elements change places. -/
def swp (L : List α) (i j : Nat) : List α := match L[i]?, L[j]? with
  | some x, some y => (L.set i y).set j x
  | _, _ => L
theorem swp_at {L : List α} {i j : Nat} {x y : α} (h : L[i]? = some x) (k : L[j]? = some y) : swp L i j = (L.set i y).set j x := by unfold swp; rw [h, k]
theorem at_mid (A B : List α) (x : α) : (A ++ x :: B)[A.length]? = some x := by simp
theorem set_mid (A B : List α) (x y : α) : (A ++ x :: B).set A.length y = A ++ y :: B := by
  rw [List.set_append_right _ _ (Nat.le_refl _), Nat.sub_self]; rfl
theorem swp_mid (A M B : List α) (x y : α) : swp (A ++ x :: (M ++ y :: B)) A.length (A.length + 1 + M.length) = A ++ y :: (M ++ x :: B) := by
  have h1 : (A ++ x :: (M ++ y :: B))[A.length]? = some x := at_mid _ _ _
  have e : ∀ z : α, A ++ z :: (M ++ y :: B) = (A ++ z :: M) ++ y :: B := fun z => by simp
  have el : ∀ z : α, (A ++ z :: M).length = A.length + 1 + M.length := fun z => by simp; omega
  have h2 : (A ++ x :: (M ++ y :: B))[A.length + 1 + M.length]? = some y := by rw [e x, ← el x]; exact at_mid _ _ _
  rw [swp_at h1 h2, set_mid, e y, ← el y, set_mid]
  simp
theorem swp_len (L : List α) (i j : Nat) : (swp L i j).length = L.length := by
  unfold swp; split <;> simp
/-- n elements from a on change places with those from b on. -/
def swapF (L : List α) (a b : Nat) : Nat → List α
  | 0 => L
  | n + 1 => swapF (swp L a b) (a + 1) (b + 1) n
theorem swapF_blocks : ∀ (P R A M B : List α), P.length = R.length → swapF (A ++ (P ++ (M ++ (R ++ B)))) A.length (A.length + P.length + M.length) P.length = A ++ (R ++ (M ++ (P ++ B))) := by
  intro P
  induction P with
  | nil => intro R A M B h; cases R with | nil => rfl | cons r R => cases h
  | cons p P ih =>
    intro R A M B h
    cases R with
    | nil => cases h
    | cons r R =>
      have hl : P.length = R.length := by simpa using h
      rw [List.length_cons, swapF]
      have e1 : A ++ (p :: P ++ (M ++ (r :: R ++ B))) = A ++ p :: ((P ++ M) ++ r :: (R ++ B)) := by simp
      have e2 : A.length + (P.length + 1) + M.length = A.length + 1 + (P ++ M).length := by simp; omega
      rw [e1, e2, swp_mid]
      have e3 : A ++ r :: (P ++ M ++ p :: (R ++ B)) = (A ++ [r]) ++ (P ++ ((M ++ [p]) ++ (R ++ B))) := by simp
      have e4 : A.length + 1 = (A ++ [r]).length := by simp
      have e5 : A.length + 1 + (P ++ M).length + 1 = (A ++ [r]).length + P.length + (M ++ [p]).length := by simp; omega
      rw [e3, e5, e4, ih R (A ++ [r]) (M ++ [p]) B hl]
      simp
/-- The elements from s on and those from m on, up to e, change places. -/
def rotd (L : List α) (s m e : Nat) : List α := L.take s ++ ((L.take e).drop m ++ ((L.take m).drop s ++ L.drop e))
theorem rotd_blocks (A X Y B : List α) : rotd (A ++ (X ++ (Y ++ B))) A.length (A.length + X.length) (A.length + X.length + Y.length) = A ++ (Y ++ (X ++ B)) := by
  unfold rotd
  have t1 : (A ++ (X ++ (Y ++ B))).take A.length = A := by simp
  have t2 : (A ++ (X ++ (Y ++ B))).take (A.length + X.length) = A ++ X := by
    rw [← List.append_assoc, ← List.length_append, List.take_left']; rfl
  have t3 : (A ++ (X ++ (Y ++ B))).take (A.length + X.length + Y.length) = A ++ X ++ Y := by
    rw [← List.append_assoc, ← List.append_assoc, ← List.length_append, ← List.length_append, List.take_left']; rfl
  have t4 : (A ++ (X ++ (Y ++ B))).drop (A.length + X.length + Y.length) = B := by
    rw [← List.append_assoc, ← List.append_assoc, ← List.length_append, ← List.length_append, List.drop_left']; rfl
  rw [t1, t2, t3, t4]
  congr 1
  congr 1
  · rw [← List.length_append, List.drop_left']; rfl
  · congr 1
    rw [List.drop_left']; rfl
/-- A list, cut at four places. -/
theorem cut4 (L : List α) {a b c : Nat} (h1 : a ≤ b) (h2 : b ≤ c) (h3 : c ≤ L.length) : ∃ A X Y B, L = A ++ (X ++ (Y ++ B)) ∧ A.length = a ∧ X.length = b - a ∧ Y.length = c - b := by
  refine ⟨L.take a, (L.drop a).take (b - a), (L.drop b).take (c - b), L.drop c, ?_, ?_, ?_, ?_⟩
  · have e1 : L = L.take a ++ L.drop a := (List.take_append_drop a L).symm
    have e2 : L.drop a = (L.drop a).take (b - a) ++ L.drop b := by
      have := (List.take_append_drop (b - a) (L.drop a)).symm
      rwa [List.drop_drop, show a + (b - a) = b by omega] at this
    have e3 : L.drop b = (L.drop b).take (c - b) ++ L.drop c := by
      have := (List.take_append_drop (c - b) (L.drop b)).symm
      rwa [List.drop_drop, show b + (c - b) = c by omega] at this
    rw [← e3, ← e2, ← e1]
  · rw [List.length_take]; omega
  · rw [List.length_take, List.length_drop]; omega
  · rw [List.length_take, List.length_drop]; omega

theorem rot_gt {C : List α} {i j m : Nat} (h : j < i) (hi : i ≤ m) (hl : m + j ≤ C.length) : rotd (swapF C (m - i) m j) (m - i + j) m (m + j) = rotd C (m - i) m (m + j) := by
  obtain ⟨A, X, Y, B, rfl, hA, hX, hY⟩ := cut4 C (show m - i ≤ m by omega) (show m ≤ m + j by omega) hl
  obtain ⟨P, Q, rfl, hP⟩ : ∃ P Q, X = P ++ Q ∧ P.length = j := ⟨X.take j, X.drop j, (List.take_append_drop _ _).symm, by rw [List.length_take]; omega⟩
  simp only [List.length_append] at hX
  have e1 : A ++ (P ++ Q ++ (Y ++ B)) = A ++ (P ++ (Q ++ (Y ++ B))) := by simp
  have s1 := swapF_blocks P Y A Q B (by omega)
  rw [hA, show m - i + P.length + Q.length = m by omega, hP] at s1
  have r1 := rotd_blocks A (P ++ Q) Y B
  rw [hA, show m - i + (P ++ Q).length = m by rw [List.length_append]; omega, show m + Y.length = m + j by omega] at r1
  rw [r1, e1, s1]
  have r2 := rotd_blocks (A ++ Y) Q P B
  rw [show (A ++ Y).length = m - i + j by rw [List.length_append]; omega, show m - i + j + Q.length = m by omega, hP] at r2
  rw [show A ++ (Y ++ (Q ++ (P ++ B))) = A ++ Y ++ (Q ++ (P ++ B)) by simp, r2]
  simp
theorem rot_lt {C : List α} {i j m : Nat} (h : i < j) (hi : i ≤ m) (hl : m + j ≤ C.length) : rotd (swapF C (m - i) (m + j - i) i) (m - i) m (m + (j - i)) = rotd C (m - i) m (m + j) := by
  obtain ⟨A, X, Y, B, rfl, hA, hX, hY⟩ := cut4 C (show m - i ≤ m by omega) (show m ≤ m + j by omega) hl
  obtain ⟨Q, R, rfl, hQ⟩ : ∃ Q R, Y = Q ++ R ∧ Q.length = j - i := ⟨Y.take (j - i), Y.drop (j - i), (List.take_append_drop _ _).symm, by rw [List.length_take]; omega⟩
  simp only [List.length_append] at hY
  have s1 := swapF_blocks X R A Q B (by omega)
  rw [hA, show m - i + X.length + Q.length = m + j - i by omega, show X.length = i by omega] at s1
  have r1 := rotd_blocks A X (Q ++ R) B
  rw [hA, show m - i + X.length = m by omega, show m + (Q ++ R).length = m + j by rw [List.length_append]; omega] at r1
  rw [r1, show A ++ (X ++ (Q ++ R ++ B)) = A ++ (X ++ (Q ++ (R ++ B))) by simp, s1]
  have r2 := rotd_blocks A R Q (X ++ B)
  rw [hA, show m - i + R.length = m by omega, show m + Q.length = m + (j - i) by omega] at r2
  rw [r2]
  simp
theorem rot_eq {C : List α} {i m : Nat} (hi : i ≤ m) (hl : m + i ≤ C.length) : swapF C (m - i) m i = rotd C (m - i) m (m + i) := by
  obtain ⟨A, X, Y, B, rfl, hA, hX, hY⟩ := cut4 C (show m - i ≤ m by omega) (show m ≤ m + i by omega) hl
  have s1 := swapF_blocks X Y A [] B (by omega)
  rw [hA, show m - i + X.length + ([] : List α).length = m by simp; omega, show X.length = i by omega] at s1
  have r1 := rotd_blocks A X Y B
  rw [hA, show m - i + X.length = m by omega, show m + Y.length = m + i by omega] at r1
  rw [r1]
  simpa using s1
theorem swapF_len (L : List α) : ∀ (n a b : Nat), (swapF L a b n).length = L.length := by
  intro n
  induction n generalizing L with
  | zero => intro a b; rfl
  | succ n ih => intro a b; rw [swapF, ih, swp_len]
theorem rotd_len (L : List α) {s m e : Nat} (h1 : s ≤ m) (h2 : m ≤ e) (h3 : e ≤ L.length) : (rotd L s m e).length = L.length := by
  unfold rotd
  simp only [List.length_append, List.length_take, List.length_drop]
  omega
/-- Of [a, b) the list L' is the sorted form of L; beyond it they are the same. -/
def Done (lt : α → α → Bool) (a b : Nat) (L L' : List α) : Prop := ∃ A S S' B, L = A ++ (S ++ B) ∧ L' = A ++ (S' ++ B) ∧ A.length = a ∧ A.length + S.length = b ∧ Stab lt S S' ∧ Up lt S'
theorem Done.len {lt : α → α → Bool} (hw : Wk lt) {a b : Nat} {L L' : List α} (h : Done lt a b L L') : L'.length = L.length := by
  obtain ⟨A, S, S', B, rfl, rfl, _, _, hs, _⟩ := h
  have := hs.length hw
  simp only [List.length_append]
  omega
/-- One element, from behind, to its place. -/
def insF (lt : α → α → Bool) (L : List α) (a : Nat) : Nat → List α
  | 0 => L
  | j + 1 => match L[j + 1]?, L[j]? with
    | some x, some y => if a < j + 1 ∧ lt x y = true then insF lt (swp L (j + 1) j) a j else L
    | _, _ => L
theorem swp_next (A B : List α) (x y : α) : swp (A ++ y :: x :: B) (A.length + 1) A.length = A ++ x :: y :: B := by
  have h1 : (A ++ y :: x :: B)[A.length]? = some y := at_mid _ _ _
  have e : ∀ z u : α, A ++ z :: u :: B = (A ++ [z]) ++ u :: B := fun z u => by simp
  have h2 : (A ++ y :: x :: B)[A.length + 1]? = some x := by rw [e, show A.length + 1 = (A ++ [y]).length by simp]; exact at_mid _ _ _
  rw [swp_at h2 h1, e y x, show A.length + 1 = (A ++ [y]).length by simp, set_mid, ← e, set_mid]
theorem insF_spec {lt : α → α → Bool} (hw : Wk lt) : ∀ (n : Nat) (S A B : List α) (x : α), S.length = n → Up lt S → ∃ S', insF lt (A ++ (S ++ x :: B)) A.length (A.length + n) = A ++ (S' ++ B) ∧ Up lt S' ∧ Stab lt (S ++ [x]) S' := by
  intro n
  induction n with
  | zero =>
    intro S A B x hn hu
    have : S = [] := List.eq_nil_of_length_eq_zero hn
    subst this
    refine ⟨[x], ?_, by simp [Up], Stab.refl _ _⟩
    rw [Nat.add_zero]
    cases hA : A.length with
    | zero => rfl
    | succ k =>
      unfold insF
      split
      · rw [if_neg (by omega)]; rfl
      · rfl
  | succ n ih =>
    intro S A B x hn hu
    obtain ⟨T, y, rfl⟩ : ∃ T y, S = T ++ [y] := by
      have hne : S ≠ [] := by intro h; rw [h] at hn; simp at hn
      exact ⟨S.dropLast, S.getLast hne, (List.dropLast_concat_getLast hne).symm⟩
    have hT : T.length = n := by simpa using hn
    have hup := List.pairwise_append.1 hu
    have e0 : A ++ (T ++ [y] ++ x :: B) = (A ++ T) ++ y :: x :: B := by simp
    have h1 : ((A ++ T) ++ y :: x :: B)[A.length + n]? = some y := by rw [show A.length + n = (A ++ T).length by simp [hT]]; exact at_mid _ _ _
    have h2 : ((A ++ T) ++ y :: x :: B)[A.length + n + 1]? = some x := by
      rw [show (A ++ T) ++ y :: x :: B = (A ++ T ++ [y]) ++ x :: B by simp, show A.length + n + 1 = (A ++ T ++ [y]).length by simp [hT]; omega]; exact at_mid _ _ _
    rw [e0, show A.length + (n + 1) = A.length + n + 1 by omega]
    unfold insF
    rw [h1, h2]
    simp only
    by_cases hlt : lt x y = true
    · rw [if_pos ⟨by omega, hlt⟩]
      have hsw := swp_next (A ++ T) B x y
      rw [show (A ++ T).length = A.length + n by simp [hT]] at hsw
      rw [hsw]
      obtain ⟨T', g1, g2, g3⟩ := ih T A (y :: B) x hT hup.1
      rw [show (A ++ T) ++ x :: y :: B = A ++ (T ++ x :: (y :: B)) by simp, g1]
      refine ⟨T' ++ [y], by simp, ?_, ?_⟩
      · refine List.pairwise_append.2 ⟨g2, by simp, fun u hu' z hz => ?_⟩
        obtain rfl : z = y := by simpa using hz
        have hm := (g3.mem hw u).2 hu'
        rcases List.mem_append.1 hm with hm | hm
        · exact hup.2.2 u hm _ (by simp)
        · obtain rfl : u = x := by simpa using hm
          exact hw.asym _ _ hlt
      · have : Stab lt (T ++ ([y] ++ [x])) (T ++ ([x] ++ [y])) := Stab.app (Stab.refl _ _) (stab_blocks hw (fun u hu v hv => by
          obtain rfl : u = y := by simpa using hu
          obtain rfl : v = x := by simpa using hv
          exact hlt))
        refine Stab.trans (by simpa using this) ?_
        have := Stab.app g3 (Stab.refl lt [y])
        simpa using this
    · rw [if_neg (by simp [hlt])]
      refine ⟨T ++ [y] ++ [x], by simp, ?_, Stab.refl _ _⟩
      have hxy : lt x y = false := by simpa using hlt
      refine List.pairwise_append.2 ⟨hu, by simp, fun u hu' z hz => ?_⟩
      obtain rfl : z = x := by simpa using hz
      rcases List.mem_append.1 hu' with hm | hm
      · have := hup.2.2 u hm y (by simp)
        exact hw.ntr _ _ _ hxy this
      · obtain rfl : u = y := by simpa using hm
        exact hxy
/-- The elements from i on, one after the other, to their places. -/
def insS (lt : α → α → Bool) (L : List α) (a i : Nat) : Nat → List α
  | 0 => L
  | g + 1 => insS lt (insF lt L a i) a (i + 1) g
theorem insS_spec {lt : α → α → Bool} (hw : Wk lt) : ∀ (g : Nat) (S R A B : List α), R.length = g → Up lt S → ∃ S', insS lt (A ++ (S ++ (R ++ B))) A.length (A.length + S.length) g = A ++ (S' ++ B) ∧ Up lt S' ∧ Stab lt (S ++ R) S' := by
  intro g
  induction g with
  | zero =>
    intro S R A B hg hu
    have : R = [] := List.eq_nil_of_length_eq_zero hg
    subst this
    exact ⟨S, by simp [insS], hu, by simpa using Stab.refl lt S⟩
  | succ g ih =>
    intro S R A B hg hu
    cases R with
    | nil => cases hg
    | cons x R =>
      obtain ⟨T, g1, g2, g3⟩ := insF_spec hw S.length S A (R ++ B) x rfl hu
      rw [insS, show A ++ (S ++ (x :: R ++ B)) = A ++ (S ++ x :: (R ++ B)) by simp, g1]
      have hl := g3.length hw
      simp only [List.length_append, List.length_cons, List.length_nil] at hl
      obtain ⟨S', k1, k2, k3⟩ := ih T R A B (by simpa using hg) g2
      rw [show A.length + S.length + 1 = A.length + T.length by omega, k1]
      refine ⟨S', rfl, k2, Stab.trans ?_ k3⟩
      have := Stab.app g3 (Stab.refl lt R)
      simpa using this
theorem insS_done {lt : α → α → Bool} (hw : Wk lt) (L : List α) {a b : Nat} (h1 : a ≤ b) (h2 : b ≤ L.length) : Done lt a b L (insS lt L a (a + 1) (b - (a + 1))) := by
  obtain ⟨A, X, Y, B, rfl, hA, hX, hY⟩ := cut4 L (Nat.le_refl a) h1 h2
  have : X = [] := List.eq_nil_of_length_eq_zero (by omega)
  subst this
  simp only [List.nil_append] at *
  cases Y with
  | nil =>
    have hb : b = a := by simp at hY; omega
    subst hb
    refine ⟨A, [], [], B, rfl, ?_, hA, by simpa using hA, Stab.refl _ _, by simp [Up]⟩
    rw [show b - (b + 1) = 0 by omega]; rfl
  | cons y Y =>
    simp only [List.length_cons] at hY
    obtain ⟨S', k1, k2, k3⟩ := insS_spec hw (b - (a + 1)) [y] Y A B (by omega) (by simp [Up])
    refine ⟨A, y :: Y, S', B, rfl, ?_, hA, by simp; omega, by simpa using k3, k2⟩
    rw [← k1, ← hA]
    simp

/-- The order of two places of a list. -/
def ltAt (lt : α → α → Bool) (L : List α) (h k : Nat) : Bool := match L[h]?, L[k]? with
  | some x, some y => lt x y
  | _, _ => false
theorem ltAt_of {lt : α → α → Bool} {L : List α} {h k : Nat} {x y : α} (hx : L[h]? = some x) (hy : L[k]? = some y) : ltAt lt L h k = lt x y := by unfold ltAt; rw [hx, hy]
/-- The places from a to b are sorted. -/
def Seg (lt : α → α → Bool) (L : List α) (a b : Nat) : Prop := ∀ i j, a ≤ i → i < j → j < b → ltAt lt L j i = false
/-- A search by halves: p is so up to i, and not so from j on. -/
def Half (p : Nat → Bool) (i0 j0 i j : Nat) : Prop := i0 ≤ i ∧ i ≤ j ∧ j ≤ j0 ∧ (∀ k, i0 ≤ k → k < i → p k = true) ∧ (∀ k, j ≤ k → k < j0 → p k = false)
def Falls (p : Nat → Bool) (i0 j0 : Nat) : Prop := ∀ k l, i0 ≤ k → k < l → l < j0 → p l = true → p k = true
theorem Half.start {p : Nat → Bool} {i0 j0 : Nat} (h : i0 ≤ j0) : Half p i0 j0 i0 j0 := ⟨Nat.le_refl _, h, Nat.le_refl _, fun k h1 h2 => absurd h2 (by omega), fun k h1 h2 => absurd h2 (by omega)⟩
theorem Half.yes {p : Nat → Bool} {i0 j0 i j h : Nat} (hh : Half p i0 j0 i j) (hf : Falls p i0 j0) (h1 : i ≤ h) (h2 : h < j) (hp : p h = true) : Half p i0 j0 (h + 1) j := by
  obtain ⟨a, b, c, d, e⟩ := hh
  refine ⟨by omega, by omega, c, fun k h3 h4 => ?_, e⟩
  by_cases e : k = h
  · rw [e]; exact hp
  · exact hf k h h3 (by omega) (by omega) hp
theorem Half.no {p : Nat → Bool} {i0 j0 i j h : Nat} (hh : Half p i0 j0 i j) (hf : Falls p i0 j0) (h1 : i ≤ h) (h2 : h < j) (hp : p h = false) : Half p i0 j0 i h := by
  obtain ⟨a, b, c, d, e⟩ := hh
  refine ⟨a, h1, by omega, d, fun k h3 h4 => ?_⟩
  by_cases e : k = h
  · rw [e]; exact hp
  · cases hk : p k
    · rfl
    · have := hf h k (by omega) (by omega) h4 hk
      rw [hp] at this; cases this
/-- An element goes up g places. -/
def upF (L : List α) (k : Nat) : Nat → List α
  | 0 => L
  | g + 1 => upF (swp L k (k + 1)) (k + 1) g
theorem swp_prev (A B : List α) (x y : α) : swp (A ++ x :: y :: B) A.length (A.length + 1) = A ++ y :: x :: B := by
  have := swp_mid A [] B x y
  simpa using this
theorem upF_blocks (x : α) : ∀ (Y A B : List α), upF (A ++ x :: (Y ++ B)) A.length Y.length = A ++ (Y ++ x :: B) := by
  intro Y
  induction Y with
  | nil => intro A B; rfl
  | cons y Y ih =>
    intro A B
    rw [List.length_cons, upF, show A ++ x :: (y :: Y ++ B) = A ++ x :: y :: (Y ++ B) by simp, swp_prev]
    have := ih (A ++ [y]) B
    rw [show A.length + 1 = (A ++ [y]).length by simp, show A ++ y :: x :: (Y ++ B) = A ++ [y] ++ x :: (Y ++ B) by simp, this]
    simp
theorem upF_len (L : List α) (k g : Nat) : (upF L k g).length = L.length := by
  induction g generalizing L k with
  | zero => rfl
  | succ g ih => rw [upF, ih, swp_len]
/-- An element goes down g places. -/
def downF (L : List α) (k : Nat) : Nat → List α
  | 0 => L
  | g + 1 => downF (swp L k (k - 1)) (k - 1) g
theorem downF_blocks (x : α) : ∀ (n : Nat) (Y A B : List α), Y.length = n → downF (A ++ (Y ++ x :: B)) (A.length + n) n = A ++ x :: (Y ++ B) := by
  intro n
  induction n with
  | zero =>
    intro Y A B h
    have : Y = [] := List.eq_nil_of_length_eq_zero h
    subst this
    rfl
  | succ n ih =>
    intro Y A B h
    obtain ⟨T, y, rfl⟩ : ∃ T y, Y = T ++ [y] := by
      have hne : Y ≠ [] := by intro h'; rw [h'] at h; simp at h
      exact ⟨Y.dropLast, Y.getLast hne, (List.dropLast_concat_getLast hne).symm⟩
    have hT : T.length = n := by simpa using h
    rw [downF, show A.length + (n + 1) - 1 = A.length + n by omega, show A.length + (n + 1) = (A ++ T).length + 1 by simp [hT]; omega, show A ++ (T ++ [y] ++ x :: B) = A ++ T ++ y :: x :: B by simp]
    have e := swp_next (A ++ T) B x y
    rw [show A.length + n = (A ++ T).length by simp [hT], e, show (A ++ T).length = A.length + n by simp [hT], show A ++ T ++ x :: y :: B = A ++ (T ++ x :: (y :: B)) by simp, ih T A (y :: B) hT]
    simp
theorem downF_len (L : List α) (k g : Nat) : (downF L k g).length = L.length := by
  induction g generalizing L k with
  | zero => rfl
  | succ g ih => rw [downF, ih, swp_len]
theorem seg_up {lt : α → α → Bool} {A S B : List α} (h : Seg lt (A ++ (S ++ B)) A.length (A.length + S.length)) : Up lt S := by
  unfold Up
  rw [List.pairwise_iff_getElem]
  intro i j hi hj hij
  have := h (A.length + i) (A.length + j) (by omega) (by omega) (by omega)
  have g : ∀ k (hk : k < S.length), (A ++ (S ++ B))[A.length + k]? = some S[k] := fun k hk => by
    rw [List.getElem?_append_right (by omega), Nat.add_sub_cancel_left, List.getElem?_append_left hk, List.getElem?_eq_getElem hk]
  rwa [ltAt_of (g j hj) (g i hi)] at this
theorem up_seg {lt : α → α → Bool} {A S B : List α} (h : Up lt S) : Seg lt (A ++ (S ++ B)) A.length (A.length + S.length) := by
  intro i j h1 h2 h3
  have g : ∀ k (hk : k < S.length), (A ++ (S ++ B))[A.length + k]? = some S[k] := fun k hk => by
    rw [List.getElem?_append_right (by omega), Nat.add_sub_cancel_left, List.getElem?_append_left hk, List.getElem?_eq_getElem hk]
  have h' := List.pairwise_iff_getElem.1 h (i - A.length) (j - A.length) (by omega) (by omega) (by omega)
  have gi := g (i - A.length) (by omega)
  have gj := g (j - A.length) (by omega)
  rw [show A.length + (i - A.length) = i by omega] at gi
  rw [show A.length + (j - A.length) = j by omega] at gj
  rw [ltAt_of gj gi]
  exact h'
/-- What a merge begins with. -/
def Pre (lt : α → α → Bool) (L : List α) (a m b : Nat) : Prop := ∃ A X Y B, L = A ++ (X ++ (Y ++ B)) ∧ A.length = a ∧ A.length + X.length = m ∧ A.length + X.length + Y.length = b ∧ Up lt X ∧ Up lt Y
theorem Pre.bounds {lt : α → α → Bool} {L : List α} {a m b : Nat} (h : Pre lt L a m b) : a ≤ m ∧ m ≤ b ∧ b ≤ L.length := by
  obtain ⟨A, X, Y, B, rfl, h1, h2, h3, _⟩ := h
  simp only [List.length_append]
  omega
theorem Pre.segs {lt : α → α → Bool} {L : List α} {a m b : Nat} (h : Pre lt L a m b) : Seg lt L a m ∧ Seg lt L m b := by
  obtain ⟨A, X, Y, B, rfl, h1, h2, h3, h4, h5⟩ := h
  refine ⟨?_, ?_⟩
  · have := up_seg (A := A) (B := Y ++ B) h4
    rw [h2] at this
    rwa [← h1]
  · have := up_seg (A := A ++ X) (B := B) h5
    rw [List.length_append, h2, show m + Y.length = b by omega] at this
    simpa using this
/-- A merge of an empty side. -/
theorem Pre.done {lt : α → α → Bool} {L : List α} {a m b : Nat} (h : Pre lt L a m b) (hs : a = m ∨ m = b) : Done lt a b L L := by
  obtain ⟨A, X, Y, B, rfl, h1, h2, h3, h4, h5⟩ := h
  refine ⟨A, X ++ Y, X ++ Y, B, by simp, by simp, h1, by rw [List.length_append]; omega, Stab.refl _ _, ?_⟩
  rcases hs with hs | hs
  · have : X = [] := List.eq_nil_of_length_eq_zero (by omega)
    subst this; simpa using h5
  · have : Y = [] := List.eq_nil_of_length_eq_zero (by omega)
    subst this; simpa using h4
/-- One element on the left: it goes up to its place r. -/
theorem merge_left {lt : α → α → Bool} (hw : Wk lt) {L : List α} {a b r : Nat} (h : Pre lt L a (a + 1) b) (hh : Half (fun k => ltAt lt L k a) (a + 1) b r r) : Done lt a b L (upF L a (r - (a + 1))) := by
  obtain ⟨A, X, Y, B, rfl, h1, h2, h3, h4, h5⟩ := h
  subst h1
  obtain ⟨x, rfl⟩ : ∃ x, X = [x] := by
    match X, h2 with
    | [x], _ => exact ⟨x, rfl⟩
    | [], h => simp at h
    | _ :: _ :: _, h => simp at h
  obtain ⟨b0, _, b1, hlo, hhi⟩ := hh
  obtain ⟨Y1, Y2, rfl, hY⟩ : ∃ P Q, Y = P ++ Q ∧ P.length = r - (A.length + 1) := ⟨Y.take (r - (A.length + 1)), Y.drop (r - (A.length + 1)), (List.take_append_drop _ _).symm, by rw [List.length_take]; simp at h3; omega⟩
  simp only [List.length_append, List.length_cons, List.length_nil] at h3
  have hx : (A ++ ([x] ++ (Y1 ++ Y2 ++ B)))[A.length]? = some x := by simp
  have hy : ∀ k (hk : k < Y1.length), (A ++ ([x] ++ (Y1 ++ Y2 ++ B)))[A.length + 1 + k]? = some Y1[k] := fun k hk => by
    rw [List.getElem?_append_right (by omega), show A.length + 1 + k - A.length = k + 1 by omega]
    simp only [List.singleton_append, List.getElem?_cons_succ, List.append_assoc]
    rw [List.getElem?_append_left hk, List.getElem?_eq_getElem hk]
  have hz : ∀ k (hk : k < Y2.length), (A ++ ([x] ++ (Y1 ++ Y2 ++ B)))[A.length + 1 + Y1.length + k]? = some Y2[k] := fun k hk => by
    rw [List.getElem?_append_right (by omega), show A.length + 1 + Y1.length + k - A.length = (Y1.length + k) + 1 by omega]
    simp only [List.singleton_append, List.getElem?_cons_succ, List.append_assoc]
    rw [List.getElem?_append_right (by omega), show Y1.length + k - Y1.length = k by omega, List.getElem?_append_left hk, List.getElem?_eq_getElem hk]
  have c1 : ∀ y, y ∈ Y1 → lt y x = true := fun y hm => by
    obtain ⟨k, hk, rfl⟩ := List.mem_iff_getElem.1 hm
    have := hlo (A.length + 1 + k) (by omega) (by omega)
    simp only at this
    rwa [ltAt_of (hy k hk) hx] at this
  have c2 : ∀ y, y ∈ Y2 → lt y x = false := fun y hm => by
    obtain ⟨k, hk, rfl⟩ := List.mem_iff_getElem.1 hm
    have := hhi (A.length + 1 + Y1.length + k) (by omega) (by omega)
    simp only at this
    rwa [ltAt_of (hz k hk) hx] at this
  have hup := List.pairwise_append.1 h5
  refine ⟨A, [x] ++ (Y1 ++ Y2), Y1 ++ (x :: Y2), B, by simp, ?_, rfl, by simp; omega, ?_, ?_⟩
  · have := upF_blocks x Y1 A (Y2 ++ B)
    rw [hY] at this
    simpa using this
  · have := Stab.app (stab_blocks hw (X := [x]) (Y := Y1) (fun u hu v hv => by rw [List.mem_singleton.1 hu]; exact c1 v hv)) (Stab.refl lt Y2)
    simpa using this
  · refine List.pairwise_append.2 ⟨hup.1, List.pairwise_cons.2 ⟨c2, hup.2.1⟩, fun u hu v hv => ?_⟩
    rcases List.mem_cons.1 hv with rfl | hv
    · exact hw.asym _ _ (c1 u hu)
    · exact hup.2.2 u hu v hv
/-- One element on the right: it goes down to its place r. -/
theorem merge_right {lt : α → α → Bool} (hw : Wk lt) {L : List α} {a m r : Nat} (h : Pre lt L a m (m + 1)) (hh : Half (fun k => !ltAt lt L m k) a m r r) : Done lt a (m + 1) L (downF L m (m - r)) := by
  obtain ⟨A, X, Y, B, rfl, h1, h2, h3, h4, h5⟩ := h
  subst h1
  subst h2
  obtain ⟨y, rfl⟩ : ∃ y, Y = [y] := by
    match Y, h3 with
    | [y], _ => exact ⟨y, rfl⟩
    | [], h => simp at h
    | _ :: _ :: _, h => simp at h
  obtain ⟨b0, _, b1, hlo, hhi⟩ := hh
  obtain ⟨X1, X2, rfl, hX⟩ : ∃ P Q, X = P ++ Q ∧ P.length = r - A.length := ⟨X.take (r - A.length), X.drop (r - A.length), (List.take_append_drop _ _).symm, by rw [List.length_take]; omega⟩
  simp only [List.length_append] at *
  have hy : (A ++ (X1 ++ X2 ++ ([y] ++ B)))[A.length + (X1.length + X2.length)]? = some y := by
    rw [List.getElem?_append_right (by omega), List.getElem?_append_right (by simp), Nat.add_sub_cancel_left]; simp
  have g1 : ∀ k (hk : k < X1.length), (A ++ (X1 ++ X2 ++ ([y] ++ B)))[A.length + k]? = some X1[k] := fun k hk => by
    rw [List.getElem?_append_right (by omega), Nat.add_sub_cancel_left, List.append_assoc, List.getElem?_append_left hk, List.getElem?_eq_getElem hk]
  have g2 : ∀ k (hk : k < X2.length), (A ++ (X1 ++ X2 ++ ([y] ++ B)))[A.length + X1.length + k]? = some X2[k] := fun k hk => by
    rw [List.getElem?_append_right (by omega), show A.length + X1.length + k - A.length = X1.length + k by omega, List.append_assoc, List.getElem?_append_right (by omega), Nat.add_sub_cancel_left, List.getElem?_append_left hk, List.getElem?_eq_getElem hk]
  have c1 : ∀ x, x ∈ X1 → lt y x = false := fun x hm => by
    obtain ⟨k, hk, rfl⟩ := List.mem_iff_getElem.1 hm
    have := hlo (A.length + k) (by omega) (by omega)
    simp only [Bool.not_eq_true'] at this
    rwa [ltAt_of hy (g1 k hk)] at this
  have c2 : ∀ x, x ∈ X2 → lt y x = true := fun x hm => by
    obtain ⟨k, hk, rfl⟩ := List.mem_iff_getElem.1 hm
    have := hhi (A.length + X1.length + k) (by omega) (by omega)
    simp only [Bool.not_eq_false'] at this
    rwa [ltAt_of hy (g2 k hk)] at this
  have hup := List.pairwise_append.1 h4
  refine ⟨A, X1 ++ X2 ++ [y], X1 ++ (y :: X2), B, by simp, ?_, rfl, by simp; omega, ?_, ?_⟩
  · have := downF_blocks y X2.length X2 (A ++ X1) B rfl
    rw [show (A ++ X1).length + X2.length = A.length + (X1.length + X2.length) by simp; omega] at this
    rw [show A.length + (X1.length + X2.length) - r = X2.length by omega]
    simpa using this
  · have := Stab.app (Stab.refl lt X1) (stab_blocks hw (X := X2) (Y := [y]) (fun u hu v hv => by rw [List.mem_singleton.1 hv]; exact c2 u hu))
    simpa using this
  · refine List.pairwise_append.2 ⟨hup.1, List.pairwise_cons.2 ⟨fun x hx => hw.asym _ _ (c2 x hx), hup.2.1⟩, fun u hu v hv => ?_⟩
    rcases List.mem_cons.1 hv with rfl | hv
    · exact c1 u hu
    · exact hup.2.2 u hu v hv

theorem some_of {L : List α} {i : Nat} (h : i < L.length) : ∃ x, L[i]? = some x := ⟨L[i], List.getElem?_eq_getElem h⟩
section
variable {lt : α → α → Bool} (hw : Wk lt) {L : List α} {i j k : Nat} (hi : i < L.length) (hj : j < L.length) (hk : k < L.length)
include hw hi hj hk
theorem ltAt_tr2 (h1 : ltAt lt L j i = false) (h2 : ltAt lt L j k = true) : ltAt lt L i k = true := by
  obtain ⟨x, hx⟩ := some_of hi; obtain ⟨y, hy⟩ := some_of hj; obtain ⟨z, hz⟩ := some_of hk
  rw [ltAt_of hy hx] at h1; rw [ltAt_of hy hz] at h2; rw [ltAt_of hx hz]
  exact hw.tr2 h1 h2
theorem ltAt_tr1 (h1 : ltAt lt L i j = true) (h2 : ltAt lt L k j = false) : ltAt lt L i k = true := by
  obtain ⟨x, hx⟩ := some_of hi; obtain ⟨y, hy⟩ := some_of hj; obtain ⟨z, hz⟩ := some_of hk
  rw [ltAt_of hx hy] at h1; rw [ltAt_of hz hy] at h2; rw [ltAt_of hx hz]
  exact hw.tr1 h1 h2
theorem ltAt_ntr (h1 : ltAt lt L i j = false) (h2 : ltAt lt L j k = false) : ltAt lt L i k = false := by
  obtain ⟨x, hx⟩ := some_of hi; obtain ⟨y, hy⟩ := some_of hj; obtain ⟨z, hz⟩ := some_of hk
  rw [ltAt_of hx hy] at h1; rw [ltAt_of hy hz] at h2; rw [ltAt_of hx hz]
  exact hw.ntr _ _ _ h1 h2
end
theorem ltAt_irr {lt : α → α → Bool} (hw : Wk lt) {L : List α} {i : Nat} (hi : i < L.length) : ltAt lt L i i = false := by
  obtain ⟨x, hx⟩ := some_of hi
  rw [ltAt_of hx hx]; exact hw.irr x
theorem falls_left {lt : α → α → Bool} (hw : Wk lt) {L : List α} {a b : Nat} (h : Pre lt L a (a + 1) b) : Falls (fun k => ltAt lt L k a) (a + 1) b := by
  intro k l h1 h2 h3 h4
  have hb := h.bounds
  exact ltAt_tr2 hw (by omega) (j := l) (by omega) (by omega) (h.segs.2 k l h1 h2 h3) h4
theorem falls_right {lt : α → α → Bool} (hw : Wk lt) {L : List α} {a m : Nat} (h : Pre lt L a m (m + 1)) : Falls (fun k => !ltAt lt L m k) a m := by
  intro k l h1 h2 h3 h4
  have hb := h.bounds
  simp only [Bool.not_eq_true'] at h4 ⊢
  exact ltAt_ntr hw (by omega) (j := l) (by omega) (by omega) h4 (h.segs.1 k l h1 h2 h3)
/-- The search's bounds in the general step. -/
def lo0 (a m b : Nat) : Nat := if (a + b) / 2 < m then (a + b) / 2 + m - b else a
def hi0 (a m b : Nat) : Nat := if (a + b) / 2 < m then (a + b) / 2 else m
def test (lt : α → α → Bool) (L : List α) (a m b c : Nat) : Bool := !ltAt lt L ((a + b) / 2 + m - 1 - c) c
theorem range_ok {a m b : Nat} (h1 : a < m) (h2 : m < b) : a ≤ lo0 a m b ∧ lo0 a m b ≤ hi0 a m b ∧ hi0 a m b ≤ m ∧ hi0 a m b ≤ (a + b) / 2 ∧ b ≤ (b - a) + a ∧ (a + b) / 2 + m - b ≤ lo0 a m b ∧ (lo0 a m b = a ∨ lo0 a m b + b = (a + b) / 2 + m) ∧ (hi0 a m b = m ∨ hi0 a m b = (a + b) / 2) := by
  unfold lo0 hi0
  split <;> refine ⟨?_, ?_, ?_, ?_, ?_, ?_, ?_, ?_⟩ <;> omega
theorem falls_gen {lt : α → α → Bool} (hw : Wk lt) {L : List α} {a m b : Nat} (h : Pre lt L a m b) (h1 : a < m) (h2 : m < b) : Falls (test lt L a m b) (lo0 a m b) (hi0 a m b) := by
  intro k l g1 g2 g3 g4
  obtain ⟨r1, r2, r3, r4, r5, r6, r7, r8⟩ := range_ok h1 h2
  have hb := h.bounds
  unfold test at g4 ⊢
  simp only [Bool.not_eq_true'] at g4 ⊢
  have e1 := h.segs.1 k l (by omega) g2 (by omega)
  have e2 := h.segs.2 ((a + b) / 2 + m - 1 - l) ((a + b) / 2 + m - 1 - k) (by omega) (by omega) (by omega)
  exact ltAt_ntr hw (by omega) (j := (a + b) / 2 + m - 1 - l) (by omega) (by omega) e2 (ltAt_ntr hw (by omega) (j := l) (by omega) (by omega) g4 e1)
/-- Four parts of a list. -/
theorem Pre.mk' {lt : α → α → Bool} {A X Y B : List α} (h1 : Up lt X) (h2 : Up lt Y) : Pre lt (A ++ (X ++ (Y ++ B))) A.length (A.length + X.length) (A.length + X.length + Y.length) := ⟨A, X, Y, B, rfl, rfl, rfl, rfl, h1, h2⟩
/-- What the general step leaves: the left half, the right half, each to be merged; nothing of the right is below anything of the left. -/
structure Step (lt : α → α → Bool) (L : List α) (a m b s : Nat) : Prop where
  left : Pre lt (rotd L s m ((a + b) / 2 + m - s)) a s ((a + b) / 2)
  right : ∀ L2, Done lt a ((a + b) / 2) (rotd L s m ((a + b) / 2 + m - s)) L2 → Pre lt L2 ((a + b) / 2) ((a + b) / 2 + m - s) b
  all : ∀ L2 L3, Done lt a ((a + b) / 2) (rotd L s m ((a + b) / 2 + m - s)) L2 → Done lt ((a + b) / 2) b L2 L3 → Done lt a b L L3
  le1 : a ≤ s ∧ s ≤ m ∧ m ≤ (a + b) / 2 + m - s ∧ (a + b) / 2 + m - s ≤ b ∧ s ≤ (a + b) / 2 ∧ (a + b) / 2 ≤ (a + b) / 2 + m - s
theorem app_inj {A A' B B' : List α} (h : A ++ B = A' ++ B') (hl : A.length = A'.length) : A = A' ∧ B = B' := List.append_inj h hl
theorem step_gen {lt : α → α → Bool} (hw : Wk lt) {L : List α} {a m b s : Nat} (h : Pre lt L a m b) (h1 : a < m) (h2 : m < b) (hh : Half (test lt L a m b) (lo0 a m b) (hi0 a m b) s s) : Step lt L a m b s := by
  obtain ⟨r1, r2, r3, r4, r5, r6, r7, r8⟩ := range_ok h1 h2
  have hb := h.bounds
  have hsg := h.segs
  obtain ⟨q1, _, q2, hlo, hhi⟩ := hh
  have hmid : a ≤ (a + b) / 2 ∧ (a + b) / 2 ≤ b := by omega
  obtain ⟨A, X, Y, B, rfl, a1, a2, a3, ux, uy⟩ := h
  subst a1
  obtain ⟨X1, X2, rfl, hX⟩ : ∃ P Q, X = P ++ Q ∧ P.length = s - A.length := ⟨X.take (s - A.length), X.drop (s - A.length), (List.take_append_drop _ _).symm, by rw [List.length_take]; omega⟩
  obtain ⟨Y1, Y2, rfl, hY⟩ : ∃ P Q, Y = P ++ Q ∧ P.length = (A.length + b) / 2 - s := ⟨Y.take ((A.length + b) / 2 - s), Y.drop ((A.length + b) / 2 - s), (List.take_append_drop _ _).symm, by rw [List.length_take]; omega⟩
  simp only [List.length_append] at a2 a3
  generalize hM : (A.length + b) / 2 = M at *
  have gx1 : ∀ k (hk : k < X1.length), (A ++ (X1 ++ X2 ++ (Y1 ++ Y2 ++ B)))[A.length + k]? = some X1[k] := fun k hk => by
    rw [List.getElem?_append_right (by omega), Nat.add_sub_cancel_left, List.append_assoc, List.getElem?_append_left hk, List.getElem?_eq_getElem hk]
  have gx2 : ∀ k (hk : k < X2.length), (A ++ (X1 ++ X2 ++ (Y1 ++ Y2 ++ B)))[s + k]? = some X2[k] := fun k hk => by
    rw [List.getElem?_append_right (by omega), List.append_assoc, List.getElem?_append_right (by omega), show s + k - A.length - X1.length = k by omega, List.getElem?_append_left hk, List.getElem?_eq_getElem hk]
  have gy1 : ∀ k (hk : k < Y1.length), (A ++ (X1 ++ X2 ++ (Y1 ++ Y2 ++ B)))[m + k]? = some Y1[k] := fun k hk => by
    rw [List.getElem?_append_right (by omega), List.getElem?_append_right (by simp; omega), List.length_append, show m + k - A.length - (X1.length + X2.length) = k by omega, List.append_assoc, List.getElem?_append_left hk, List.getElem?_eq_getElem hk]
  have gy2 : ∀ k (hk : k < Y2.length), (A ++ (X1 ++ X2 ++ (Y1 ++ Y2 ++ B)))[M + m - s + k]? = some Y2[k] := fun k hk => by
    rw [List.getElem?_append_right (by omega), List.getElem?_append_right (by simp; omega), List.length_append, List.append_assoc, List.getElem?_append_right (by omega), show M + m - s + k - A.length - (X1.length + X2.length) - Y1.length = k by omega, List.getElem?_append_left hk, List.getElem?_eq_getElem hk]
  have hlen : (A ++ (X1 ++ X2 ++ (Y1 ++ Y2 ++ B))).length = b + B.length := by simp only [List.length_append]; omega
  have ge : ∀ i, i < b → i < (A ++ (X1 ++ X2 ++ (Y1 ++ Y2 ++ B))).length := fun i hi => by omega
  have le_of : ∀ i j, A.length ≤ i → i ≤ j → j < m → ltAt lt (A ++ (X1 ++ X2 ++ (Y1 ++ Y2 ++ B))) j i = false := fun i j g1 g2 g3 => by
    by_cases e : i = j
    · rw [e]; exact ltAt_irr hw (ge j (by omega))
    · exact hsg.1 i j g1 (by omega) g3
  have le_of' : ∀ i j, m ≤ i → i ≤ j → j < b → ltAt lt (A ++ (X1 ++ X2 ++ (Y1 ++ Y2 ++ B))) j i = false := fun i j g1 g2 g3 => by
    by_cases e : i = j
    · rw [e]; exact ltAt_irr hw (ge j (by omega))
    · exact hsg.2 i j g1 (by omega) g3
  -- each of Y1 is below each of X2
  have cyx : ∀ x, x ∈ X2 → ∀ y, y ∈ Y1 → lt y x = true := fun x hx y hy => by
    obtain ⟨i, hi, rfl⟩ := List.mem_iff_getElem.1 hx
    obtain ⟨j, hj, rfl⟩ := List.mem_iff_getElem.1 hy
    have ht := hhi s (by omega) (by omega)
    unfold test at ht
    rw [hM] at ht
    simp only [Bool.not_eq_false'] at ht
    have t1 := ltAt_tr2 hw (ge _ (by omega)) (ge _ (by omega)) (ge _ (by omega)) (le_of' (m + j) (M + m - 1 - s) (by omega) (by omega) (by omega)) ht
    have t2 := ltAt_tr1 hw (ge _ (by omega)) (ge _ (by omega)) (ge _ (by omega)) t1 (le_of s (s + i) (by omega) (by omega) (by omega))
    rwa [ltAt_of (gy1 j hj) (gx2 i hi)] at t2
  -- none of Y2 is below one of X1
  have cxy : ∀ x, x ∈ X1 → ∀ y, y ∈ Y2 → lt y x = false := fun x hx y hy => by
    obtain ⟨i, hi, rfl⟩ := List.mem_iff_getElem.1 hx
    obtain ⟨j, hj, rfl⟩ := List.mem_iff_getElem.1 hy
    have ht := hlo (s - 1) (by omega) (by omega)
    unfold test at ht
    rw [hM, show M + m - 1 - (s - 1) = M + m - s by omega] at ht
    simp only [Bool.not_eq_true'] at ht
    have t1 := ltAt_ntr hw (ge _ (by omega)) (ge _ (by omega)) (ge _ (by omega)) (le_of' (M + m - s) (M + m - s + j) (by omega) (by omega) (by omega)) ht
    have t2 := ltAt_ntr hw (ge _ (by omega)) (ge _ (by omega)) (ge _ (by omega)) t1 (le_of (A.length + i) (s - 1) (by omega) (by omega) (by omega))
    rwa [ltAt_of (gy2 j hj) (gx1 i hi)] at t2
  have hux := List.pairwise_append.1 ux
  have huy := List.pairwise_append.1 uy
  have hrot : rotd (A ++ (X1 ++ X2 ++ (Y1 ++ Y2 ++ B))) s m (M + m - s) = A ++ (X1 ++ (Y1 ++ (X2 ++ (Y2 ++ B)))) := by
    have := rotd_blocks (A ++ X1) X2 Y1 (Y2 ++ B)
    rw [show (A ++ X1).length = s by simp; omega, show s + X2.length = m by omega, show m + Y1.length = M + m - s by omega] at this
    rw [show A ++ (X1 ++ X2 ++ (Y1 ++ Y2 ++ B)) = A ++ X1 ++ (X2 ++ (Y1 ++ (Y2 ++ B))) by simp, this]
    simp
  -- what stands in the left half
  have hleft : ∀ L2, Done lt A.length M (A ++ (X1 ++ (Y1 ++ (X2 ++ (Y2 ++ B))))) L2 → ∃ Z, L2 = A ++ (Z ++ (X2 ++ (Y2 ++ B))) ∧ Stab lt (X1 ++ Y1) Z ∧ Up lt Z ∧ Z.length = X1.length + Y1.length := by
    intro L2 hd
    obtain ⟨A', S, S', B', e1, e2, d1, d2, d3, d4⟩ := hd
    obtain ⟨rfl, e3⟩ := app_inj e1 d1.symm
    have e4 : (X1 ++ Y1) ++ (X2 ++ (Y2 ++ B)) = S ++ B' := by simpa using e3
    obtain ⟨rfl, rfl⟩ := app_inj e4 (by rw [List.length_append]; omega)
    exact ⟨S', e2, d3, d4, by rw [← d3.length hw, List.length_append]⟩
  refine ⟨?_, ?_, ?_, by omega⟩
  · rw [hM, hrot]
    have := Pre.mk' (A := A) (B := X2 ++ (Y2 ++ B)) hux.1 huy.1
    rwa [show A.length + X1.length = s by omega, show s + Y1.length = M by omega] at this
  · intro L2 hd
    rw [hM, hrot] at hd
    rw [hM]
    obtain ⟨Z, rfl, z1, z2, z3⟩ := hleft L2 hd
    have := Pre.mk' (A := A ++ Z) (B := B) hux.2.1 huy.2.1
    rw [List.length_append, z3, show A.length + (X1.length + Y1.length) = M by omega, show M + X2.length = M + m - s by omega, show M + m - s + Y2.length = b by omega] at this
    simpa using this
  · intro L2 L3 hd hd'
    rw [hM, hrot] at hd
    rw [hM] at hd'
    obtain ⟨Z, rfl, z1, z2, z3⟩ := hleft L2 hd
    obtain ⟨A', S, S', B', e1, e2, d1, d2, d3, d4⟩ := hd'
    have e0 : (A ++ Z) ++ (X2 ++ (Y2 ++ B)) = A' ++ (S ++ B') := by simpa using e1
    obtain ⟨rfl, e3⟩ := app_inj e0 (by rw [List.length_append]; omega)
    have e4 : (X2 ++ Y2) ++ B = S ++ B' := by simpa using e3
    obtain ⟨rfl, rfl⟩ := app_inj e4 (by rw [List.length_append]; omega)
    refine ⟨A, X1 ++ X2 ++ (Y1 ++ Y2), Z ++ S', B, by simp, by rw [e2]; simp, rfl, by simp only [List.length_append]; omega, ?_, ?_⟩
    · have s1 : Stab lt (X1 ++ (X2 ++ Y1 ++ Y2)) (X1 ++ (Y1 ++ X2 ++ Y2)) := Stab.app (Stab.refl _ _) (Stab.app (stab_blocks hw cyx) (Stab.refl _ _))
      have s2 := Stab.app z1 d3
      refine Stab.trans (by simpa using s1) (Stab.trans ?_ s2)
      have := Stab.refl lt (X1 ++ (Y1 ++ (X2 ++ Y2)))
      simpa using this
    · refine List.pairwise_append.2 ⟨z2, d4, fun u hu v hv => ?_⟩
      have hu' := (z1.mem hw u).2 hu
      have hv' := (d3.mem hw v).2 hv
      rcases List.mem_append.1 hu' with hu' | hu' <;> rcases List.mem_append.1 hv' with hv' | hv'
      · exact hux.2.2 u hu' v hv'
      · exact cxy u hu' v hv'
      · exact hw.asym _ _ (cyx v hv' u hu')
      · exact huy.2.2 u hu' v hv'

theorem Done.seg {lt : α → α → Bool} (hw : Wk lt) {a b : Nat} {L L' : List α} (h : Done lt a b L L') : Seg lt L' a b := by
  obtain ⟨A, S, S', B, rfl, rfl, rfl, h2, h3, h4⟩ := h
  have := up_seg (A := A) (B := B) h4
  rwa [← h3.length hw, h2] at this
theorem Done.get {lt : α → α → Bool} (hw : Wk lt) {a b : Nat} {L L' : List α} (h : Done lt a b L L') {i : Nat} (hi : i < a ∨ b ≤ i) : L'[i]? = L[i]? := by
  obtain ⟨A, S, S', B, rfl, rfl, rfl, h2, h3, h4⟩ := h
  have hl := h3.length hw
  rcases hi with hi | hi
  · rw [List.getElem?_append_left hi, List.getElem?_append_left hi]
  · rw [List.getElem?_append_right (by omega), List.getElem?_append_right (by omega), List.getElem?_append_right (by omega), List.getElem?_append_right (by omega), hl]
theorem Done.seg_out {lt : α → α → Bool} (hw : Wk lt) {a b : Nat} {L L' : List α} (h : Done lt a b L L') {i j : Nat} (hi : j ≤ a ∨ b ≤ i) (hs : Seg lt L i j) : Seg lt L' i j := by
  intro k l g1 g2 g3
  have := hs k l g1 g2 g3
  unfold ltAt at this ⊢
  rwa [h.get hw (by omega), h.get hw (by omega)]
theorem Done.stab {lt : α → α → Bool} {a b : Nat} {L L' : List α} (h : Done lt a b L L') : Stab lt L L' := by
  obtain ⟨A, S, S', B, rfl, rfl, rfl, h2, h3, h4⟩ := h
  exact Stab.app (Stab.refl _ _) (Stab.app h3 (Stab.refl _ _))
theorem seg_pre {lt : α → α → Bool} {L : List α} {a m b : Nat} (h1 : Seg lt L a m) (h2 : Seg lt L m b) (ha : a ≤ m) (hb : m ≤ b) (hl : b ≤ L.length) : Pre lt L a m b := by
  obtain ⟨A, X, Y, B, rfl, hA, hX, hY⟩ := cut4 L ha hb hl
  subst hA
  have e1 : A.length + X.length = m := by omega
  have e2 : A.length + X.length + Y.length = b := by omega
  refine ⟨A, X, Y, B, rfl, rfl, e1, e2, ?_, ?_⟩
  · rw [← e1] at h1; exact seg_up h1
  · rw [← e2, ← e1, ← List.length_append, ← List.append_assoc] at h2; exact seg_up h2
theorem seg_all {lt : α → α → Bool} {L : List α} (h : Seg lt L 0 L.length) : Up lt L := by
  have := seg_up (A := []) (S := L) (B := []) (lt := lt) (by simpa using h)
  exact this
theorem seg_mono {lt : α → α → Bool} {L : List α} {a b c d : Nat} (h : Seg lt L a b) (h1 : a ≤ c) (h2 : d ≤ b) : Seg lt L c d := fun i j g1 g2 g3 => h i j (by omega) g2 (by omega)
theorem seg_short {lt : α → α → Bool} {L : List α} {a b : Nat} (h : b ≤ a + 1) : Seg lt L a b := fun i j g1 g2 g3 => absurd g2 (by omega)
/-- All blocks of k places are sorted. -/
def Blocks (lt : α → α → Bool) (L : List α) (k : Nat) : Prop := ∀ t, Seg lt L (t * k) (min (t * k + k) L.length)
/-- The blocks ahead of place t * k are. -/
def Ahead (lt : α → α → Bool) (L : List α) (k t : Nat) : Prop := ∀ u, u < t → Seg lt L (u * k) (u * k + k)
theorem Ahead.zero (lt : α → α → Bool) (L : List α) (k : Nat) : Ahead lt L k 0 := fun u h => absurd h (by omega)
theorem mul_step {u t k : Nat} (h : u < t) : u * k + k ≤ t * k := by
  have := Nat.mul_le_mul_right k (show u + 1 ≤ t by omega)
  rwa [Nat.add_mul, Nat.one_mul] at this
theorem Ahead.next {lt : α → α → Bool} (hw : Wk lt) {L L' : List α} {k t : Nat} (h : Ahead lt L k t) (hd : Done lt (t * k) (t * k + k) L L') : Ahead lt L' k (t + 1) := by
  intro u hu
  by_cases e : u = t
  · rw [e]; exact hd.seg hw
  · exact hd.seg_out hw (.inl (mul_step (by omega))) (h u (by omega))
theorem Ahead.last {lt : α → α → Bool} (hw : Wk lt) {L L' : List α} {k t : Nat} (h : Ahead lt L k t) (hn : L.length < t * k + k) (hd : Done lt (t * k) L.length L L') : Blocks lt L' k := by
  intro u
  rw [hd.len hw]
  rcases Nat.lt_trichotomy u t with hu | hu | hu
  · exact seg_mono (hd.seg_out hw (.inl (mul_step hu)) (h u hu)) (Nat.le_refl _) (Nat.min_le_left _ _)
  · rw [hu]; exact seg_mono (hd.seg hw) (Nat.le_refl _) (Nat.min_le_right _ _)
  · have := mul_step (k := k) hu
    exact seg_short (by omega)
/-- The blocks from place t * k on are. -/
def Behind (lt : α → α → Bool) (L : List α) (k t : Nat) : Prop := ∀ u, t ≤ u → Seg lt L (u * k) (min (u * k + k) L.length)
theorem Blocks.behind {lt : α → α → Bool} {L : List α} {k : Nat} (h : Blocks lt L k) : Behind lt L k 0 := fun u _ => h u
theorem two_mul_block (t k : Nat) : 2 * t * k = t * (2 * k) := by rw [Nat.mul_comm 2 t, Nat.mul_assoc]
theorem Behind.next {lt : α → α → Bool} (hw : Wk lt) {L L' : List α} {k t : Nat} (h : Behind lt L k (2 * t)) (hd : Done lt (t * (2 * k)) (t * (2 * k) + 2 * k) L L') : Behind lt L' k (2 * (t + 1)) := by
  intro u hu
  rw [hd.len hw]
  refine hd.seg_out hw (.inr ?_) (h u (by omega))
  have := Nat.mul_le_mul_right k hu
  rw [two_mul_block, Nat.add_mul, Nat.one_mul] at this
  exact this
theorem Behind.pre {lt : α → α → Bool} {L : List α} {k t : Nat} (h : Behind lt L k (2 * t)) (hb : t * (2 * k) + 2 * k ≤ L.length) : Pre lt L (t * (2 * k)) (t * (2 * k) + k) (t * (2 * k) + 2 * k) := by
  have h0 := h (2 * t) (Nat.le_refl _)
  have h1 := h (2 * t + 1) (by omega)
  rw [Nat.add_mul, Nat.one_mul, two_mul_block] at h1
  rw [two_mul_block] at h0
  rw [Nat.min_eq_left (by omega)] at h0 h1
  exact seg_pre h0 (seg_mono h1 (Nat.le_refl _) (by omega)) (by omega) (by omega) hb
theorem Behind.pre_last {lt : α → α → Bool} {L : List α} {k t : Nat} (h : Behind lt L k (2 * t)) (hb : t * (2 * k) + k ≤ L.length) (hn : L.length < t * (2 * k) + 2 * k) : Pre lt L (t * (2 * k)) (t * (2 * k) + k) L.length := by
  have h0 := h (2 * t) (Nat.le_refl _)
  have h1 := h (2 * t + 1) (by omega)
  rw [Nat.add_mul, Nat.one_mul, two_mul_block] at h1
  rw [two_mul_block] at h0
  rw [Nat.min_eq_left (by omega)] at h0
  rw [Nat.min_eq_right (by omega)] at h1
  exact seg_pre h0 h1 (by omega) (by omega) (Nat.le_refl _)
theorem Behind.done_last {lt : α → α → Bool} {L : List α} {k t : Nat} (h : Behind lt L k (2 * t)) (ha : t * (2 * k) ≤ L.length) (hn : L.length ≤ t * (2 * k) + k) : Done lt (t * (2 * k)) L.length L L := by
  have h0 := h (2 * t) (Nat.le_refl _)
  rw [two_mul_block, Nat.min_eq_right (by omega)] at h0
  exact (seg_pre h0 (seg_short (by omega)) ha (Nat.le_refl _) (Nat.le_refl _)).done (.inr rfl)
theorem Blocks.up {lt : α → α → Bool} {L : List α} {k : Nat} (h : Blocks lt L k) (hk : L.length ≤ k) : Up lt L := by
  have := h 0
  rw [Nat.zero_mul, Nat.zero_add, Nat.min_eq_right hk] at this
  exact seg_all this
/-- The sorted list. -/
def sortL (lt : α → α → Bool) (L : List α) : List α := insS lt L 0 1 (L.length - 1)
theorem sortL_ok {lt : α → α → Bool} (hw : Wk lt) (L : List α) : Up lt (sortL lt L) ∧ Stab lt L (sortL lt L) := by
  have h := insS_done hw L (Nat.zero_le L.length) (Nat.le_refl _)
  have hl : (sortL lt L).length = L.length := h.len hw
  exact ⟨seg_all (by rw [hl]; exact h.seg hw), h.stab⟩
theorem sortL_of {lt : α → α → Bool} (hw : Wk lt) {L L' : List α} (h1 : Up lt L') (h2 : Stab lt L L') : L' = sortL lt L :=
  up_unique hw _ _ h1 (sortL_ok hw L).1 (h2.symm.trans (sortL_ok hw L).2)
/-- One element more, put behind the last one that is not above it. -/
theorem put_ok {lt : α → α → Bool} (hw : Wk lt) {O : List α} {x : α} {k : Nat} (hu : Up lt O) (h1 : ∀ y, y ∈ O.drop k → lt x y = true) (h2 : ∀ y, y ∈ O.take k → lt x y = false) : Up lt (O.take k ++ x :: O.drop k) ∧ Stab lt (O ++ [x]) (O.take k ++ x :: O.drop k) := by
  have e : O = O.take k ++ O.drop k := (List.take_append_drop k O).symm
  have hu' : Up lt (O.take k ++ O.drop k) := by rw [← e]; exact hu
  have hp := List.pairwise_append.1 hu'
  refine ⟨List.pairwise_append.2 ⟨hp.1, List.pairwise_cons.2 ⟨fun y hy => hw.asym _ _ (h1 y hy), hp.2.1⟩, fun u hu v hv => ?_⟩, ?_⟩
  · rcases List.mem_cons.1 hv with rfl | hv
    · exact h2 u hu
    · exact hp.2.2 u hu v hv
  · have := Stab.app (Stab.refl lt (O.take k)) (stab_blocks hw (X := O.drop k) (Y := [x]) (fun u hu v hv => by rw [List.mem_singleton.1 hv]; exact h1 u hu))
    rw [← List.append_assoc, ← e] at this
    simpa using this
end Go.Proofs.YtkoaangakmpggaaGreatDoor.Srt
end
section
/- Orders of books are weak orders. -/
namespace Go.Proofs.YtkoaangakmpggaaGreatDoor
open Go.RowKit Go.Proofs.YtkoaangakmpggaaGreatDoorW.PrintWords Go.Proofs.YtkoaangakmpggaaGreatDoorW.PrintMore
set_option linter.unusedVariables false
set_option linter.unusedSimpArgs false
set_option maxRecDepth 100000

/-- A comparison with three outcomes, that orders. -/
structure Pre3 (c : Bk → Bk → Int) : Prop where
  anti : ∀ x y, c y x = -c x y
  le : ∀ x y z, c x y ≤ 0 → c y z ≤ 0 → c x z ≤ 0
theorem Pre3.num (g : Bk → Int) : Pre3 (fun a b => cmpI (g a) (g b)) := by
  refine ⟨fun x y => ?_, fun x y z h1 h2 => ?_⟩
  · simp only [cmpI]; (repeat' split) <;> omega
  · simp only [cmpI] at *; (repeat' split at *) <;> omega
theorem Pre3.neg {c : Bk → Bk → Int} (h : Pre3 c) : Pre3 (fun a b => -c a b) := by
  refine ⟨fun x y => ?_, fun x y z h1 h2 => ?_⟩
  · have := h.anti x y; omega
  · have a1 := h.anti x y
    have a2 := h.anti y z
    have a3 := h.anti x z
    have := h.le z y x (by omega) (by omega)
    omega
theorem Pre3.lex {c d : Bk → Bk → Int} (h : Pre3 c) (k : Pre3 d) : Pre3 (fun a b => if c a b = 0 then d a b else c a b) := by
  refine ⟨fun x y => ?_, fun x y z h1 h2 => ?_⟩
  · have a1 := h.anti x y
    have a2 := k.anti x y
    show (if c y x = 0 then d y x else c y x) = -(if c x y = 0 then d x y else c x y)
    by_cases e : c x y = 0
    · rw [if_pos e, if_pos (by omega)]; exact a2
    · rw [if_neg e, if_neg (by omega)]; exact a1
  · have a1 := h.anti x y
    have a2 := h.anti y z
    have a3 := h.anti x z
    have l1 := h.le x y z
    have l2 := h.le y z x
    have l3 := h.le z x y
    have l4 := k.le x y z
    change (if c x y = 0 then d x y else c x y) ≤ 0 at h1
    change (if c y z = 0 then d y z else c y z) ≤ 0 at h2
    show (if c x z = 0 then d x z else c x z) ≤ 0
    by_cases e1 : c x y = 0 <;> by_cases e2 : c y z = 0 <;> by_cases e3 : c x z = 0 <;> simp only [e1, e2, e3, if_true, if_false] at h1 h2 ⊢ <;> first | exact l4 h1 h2 | omega
theorem Pre3.congr {c d : Bk → Bk → Int} (h : Pre3 c) (e : ∀ x y, d x y = c x y) : Pre3 d := by
  refine ⟨fun x y => ?_, fun x y z h1 h2 => ?_⟩
  · rw [e, e]; exact h.anti x y
  · rw [e] at h1 h2 ⊢; exact h.le x y z h1 h2
theorem fld_pre (f : Int) : Pre3 (fldCmp f) := by
  refine Pre3.congr (Pre3.lex (Pre3.num (num0 f)) (Pre3.lex (Pre3.num (num1 f)) (Pre3.num (num2 f)))) (fun x y => ?_)
  unfold fldCmp cmp3
  simp only [cmpI_zero]
theorem sgn_pre (f : Int) : Pre3 (sgnCmp f) := by
  unfold sgnCmp
  by_cases h : f < 0
  · refine Pre3.congr (Pre3.neg (fld_pre (absF f))) (fun x y => ?_)
    rw [if_pos h]
  · refine Pre3.congr (fld_pre (absF f)) (fun x y => ?_)
    rw [if_neg h]
theorem cmpBy_pre : ∀ (L : List Int), Pre3 (cmpBy L)
  | [] => ⟨fun _ _ => rfl, fun _ _ _ _ _ => by simp [cmpBy]⟩
  | f :: r => Pre3.congr (Pre3.lex (sgn_pre f) (cmpBy_pre r)) (fun x y => rfl)
def ltBy (L : List Int) (a b : Bk) : Bool := decide (cmpBy L a b < 0)
theorem ltBy_wk (L : List Int) : Srt.Wk (ltBy L) := by
  have h := cmpBy_pre L
  refine ⟨fun x y h1 => ?_, fun x y z h1 h2 => ?_⟩
  · unfold ltBy at *
    have := h.anti x y
    simp only [decide_eq_true_eq, decide_eq_false_iff_not] at *
    omega
  · unfold ltBy at *
    have a1 := h.anti x y
    have a2 := h.anti y z
    have a3 := h.anti x z
    simp only [decide_eq_true_eq, decide_eq_false_iff_not] at *
    have := h.le z y x (by omega) (by omega)
    omega
def ltU (a b : Bk) : Bool := decide (cmpU a b < 0)
theorem ltU_wk : Srt.Wk ltU := ltBy_wk usualL
end Go.Proofs.YtkoaangakmpggaaGreatDoor
end
section
/- Rows of books that are written: exchange of two. -/
namespace Go.Proofs.YtkoaangakmpggaaGreatDoor
open Go.RowKit Go.Proofs.YtkoaangakmpggaaGreatDoorW.PrintWords Go.Proofs.YtkoaangakmpggaaGreatDoorW.PrintMore
set_option linter.unusedVariables false
set_option linter.unusedSimpArgs false
set_option maxRecDepth 100000

/-- A row of books is L behind the call; no other block has changed. -/
def RowIs (B : Nat) (ok : Nat → Prop) (w : World) (g n cap : Nat) (L : List Bk) (w' : World) : Prop := kBk.R 44 w' B ok (.slice (some ⟨g, 0, none⟩) n cap) L ∧ w.grownBy w' (some g)
def Writes (B : Nat) (ok : Nat → Prop) (w : World) (g n cap : Nat) (L : List Bk) (en : Ending) (w' : World) : Prop := en = .returned (.tuple #[]) ∧ RowIs B ok w g n cap L w'
theorem row_put8 {W : World} {B : Nat} {ok : Nat → Prop} {g n cap : Nat} {xs : List Bk} {k : Nat} (b : Bk) (h : kBk.R 44 W B ok (.slice (some ⟨g, 0, none⟩) n cap) xs) (hk : k < n) :
    kBk.R 44 (W.setCells g (k * 8) (Bk.cells b)) B ok (.slice (some ⟨g, 0, none⟩) n cap) (xs.set k b) ∧ W.grownBy (W.setCells g (k * 8) (Bk.cells b)) (some g) := by
  obtain ⟨c, hcl, _, hcc, _⟩ := Kd.R_elem h zBk (k : Int) (by omega) (by omega)
  have hcl8 : c.length = 8 := hcl
  have := Kd.R_seg (okp := fun _ => False) h (k : Int) (by omega) (by omega) hcl (seg := Bk.cells b) (j := 0) (by simpa using hcc) (by show 0 + 8 ≤ 8; omega) (x' := b) (by
    show _ = Bk.cells b
    rw [List.drop_of_length_le (by show c.length ≤ 0 + 8; omega)]
    simp) (fun _ h => h.elim)
  rw [Int.toNat_natCast] at this
  exact this
/-- The cells of an element of a row of one's own. -/
theorem row_at {W : World} {B : Nat} {ok : Nat → Prop} {g n cap : Nat} {xs : List Bk} {k : Nat} (h : kBk.R 44 W B ok (.slice (some ⟨g, 0, none⟩) n cap) xs) (hk : k < n) :
    ∃ b, Aside0 (xs[k]? = some b) ∧ W.cell? ⟨g, k * 8, none⟩ = some (.int .i16 b.c) ∧ W.cell? ⟨g, k * 8 + 1, none⟩ = some (.int .u8 b.m0) ∧ W.cell? ⟨g, k * 8 + 2, none⟩ = some (.int .u8 b.m1) ∧ W.cell? ⟨g, k * 8 + 3, none⟩ = some (.int .u8 b.m2) ∧ W.cell? ⟨g, k * 8 + 4, none⟩ = some (.int .i16 b.v) ∧ W.cell? ⟨g, k * 8 + 5, none⟩ = some (.int .i16 b.wd) ∧ W.cell? ⟨g, k * 8 + 6, none⟩ = some (.int .i16 b.h) ∧ W.cell? ⟨g, k * 8 + 7, none⟩ = some (.int .i16 b.wt) ∧
      W.frozen? ⟨g, k * 8, none⟩ = false ∧ W.frozen? ⟨g, k * 8 + 1, none⟩ = false ∧ W.frozen? ⟨g, k * 8 + 2, none⟩ = false ∧ W.frozen? ⟨g, k * 8 + 3, none⟩ = false ∧ W.frozen? ⟨g, k * 8 + 4, none⟩ = false ∧ W.frozen? ⟨g, k * 8 + 5, none⟩ = false ∧ W.frozen? ⟨g, k * 8 + 6, none⟩ = false ∧ W.frozen? ⟨g, k * 8 + 7, none⟩ = false := by
  have hn := (Kd.R_reads' h).1
  obtain ⟨b, hx⟩ : ∃ b, xs[k]? = some b := ⟨_, List.getElem?_eq_getElem (by omega)⟩
  obtain ⟨c, hcl, hM, hcc, hf⟩ := Kd.R_elem h zBk (k : Int) (by omega) (by omega)
  rw [Int.toNat_natCast] at hM hcc hf
  have hg : xs.getD k zBk = b := by simp [List.getD_eq_getElem?_getD, hx]
  rw [hg] at hM
  have hM' : c = Bk.cells b := hM
  subst hM'
  exact ⟨b, ⟨hx⟩, hcc 0 _ rfl, hcc 1 _ rfl, hcc 2 _ rfl, hcc 3 _ rfl, hcc 4 _ rfl, hcc 5 _ rfl, hcc 6 _ rfl, hcc 7 _ rfl, hf 0, hf 1, hf 2, hf 3, hf 4, hf 5, hf 6, hf 7⟩
theorem gr_drew {w w' : World} {row : Option Nat} (h : w.grownBy w' row) : w.grownBy w'.drew row := ⟨h.os, h.tape, h.output, h.size, h.block⟩
/-- Two elements of a row change places. -/
theorem exch {W W' : World} {B : Nat} {ok : Nat → Prop} {w : World} {g n cap : Nat} {C : List Bk} {i j : Nat} {x y : Bk} (h : RowIs B ok w g n cap C W) (hi : i < n) (hj : j < n) (hx : C[i]? = some x) (hy : C[j]? = some y) (e : ((W.setCells g (i * 8) (Bk.cells y)).setCells g (j * 8) (Bk.cells x)).drew = W') :
    RowIs B ok w g n cap (Srt.swp C i j) W' := by
  rw [Srt.swp_at hx hy, ← e]
  clear e
  have h1 := h.1
  have h2 := h.2
  obtain ⟨h3, h4⟩ := row_put8 y h1 hi
  obtain ⟨h5, h6⟩ := row_put8 x h3 hj
  have h7 := (h2.trans h4).trans h6
  exact And.intro (Kd.R_drew h5) (gr_drew h7)
theorem gr_below {w W W' : World} {g : Nat} (h : w.grownBy W (some g)) (hb : Below W.heap.size W W') : w.grownBy W' (some g) := h.trans ⟨hb.os, hb.tape, hb.output, hb.size, fun k hk _ => hb.block k hk⟩
theorem RowIs.below {B : Nat} {ok : Nat → Prop} {w W W' : World} {g n cap : Nat} {C : List Bk} (h : RowIs B ok w g n cap C W) (hb : Below W.heap.size W W') : RowIs B ok w g n cap C W' := ⟨Kd.R_below h.1 hb, gr_below h.2 hb⟩
theorem RowIs.drew {B : Nat} {ok : Nat → Prop} {w W : World} {g n cap : Nat} {C : List Bk} (h : RowIs B ok w g n cap C W) : RowIs B ok w g n cap C W.drew := ⟨Kd.R_drew h.1, gr_drew h.2⟩
theorem RowIs.drewN {B : Nat} {ok : Nat → Prop} {w W : World} {g n cap : Nat} {C : List Bk} (h : RowIs B ok w g n cap C W) (k : Nat) : RowIs B ok w g n cap C (W.drewN k) := ⟨Kd.R_drewN h.1 k, ⟨h.2.os, h.2.tape, h.2.output, h.2.size, h.2.block⟩⟩
theorem row_of {W : World} {B : Nat} {ok : Nat → Prop} {g n cap : Nat} {xs : List Bk} {k : Nat} {b : Bk} (h : kBk.R 44 W B ok (.slice (some ⟨g, 0, none⟩) n cap) xs) (hk : k < n) (hb : xs[k]? = some b) :
    W.cell? ⟨g, k * 8, none⟩ = some (.int .i16 b.c) ∧ W.cell? ⟨g, k * 8 + 1, none⟩ = some (.int .u8 b.m0) ∧ W.cell? ⟨g, k * 8 + 2, none⟩ = some (.int .u8 b.m1) ∧ W.cell? ⟨g, k * 8 + 3, none⟩ = some (.int .u8 b.m2) ∧ W.cell? ⟨g, k * 8 + 4, none⟩ = some (.int .i16 b.v) ∧ W.cell? ⟨g, k * 8 + 5, none⟩ = some (.int .i16 b.wd) ∧ W.cell? ⟨g, k * 8 + 6, none⟩ = some (.int .i16 b.h) ∧ W.cell? ⟨g, k * 8 + 7, none⟩ = some (.int .i16 b.wt) ∧
      W.frozen? ⟨g, k * 8, none⟩ = false ∧ W.frozen? ⟨g, k * 8 + 1, none⟩ = false ∧ W.frozen? ⟨g, k * 8 + 2, none⟩ = false ∧ W.frozen? ⟨g, k * 8 + 3, none⟩ = false ∧ W.frozen? ⟨g, k * 8 + 4, none⟩ = false ∧ W.frozen? ⟨g, k * 8 + 5, none⟩ = false ∧ W.frozen? ⟨g, k * 8 + 6, none⟩ = false ∧ W.frozen? ⟨g, k * 8 + 7, none⟩ = false := by
  obtain ⟨b', hb', r⟩ := row_at h hk
  obtain rfl : b' = b := by have := hb'.out; rw [hb] at this; exact (Option.some.inj this).symm
  exact r
end Go.Proofs.YtkoaangakmpggaaGreatDoor
end
section
/- The library's exchange of two runs of books; The library's rotation of a run of books; The library's insertion sort of a run of books. -/
namespace Go.Proofs.YtkoaangakmpggaaGreatDoor
open Go.RowKit Go.Proofs.YtkoaangakmpggaaGreatDoorW.PrintWords Go.Proofs.YtkoaangakmpggaaGreatDoorW.PrintMore
set_option linter.unusedVariables false
set_option linter.unusedSimpArgs false
set_option maxRecDepth 100000

set_option maxHeartbeats 8000000 in
theorem swapRange_c (g cap : Nat) (L : List Bk) (a b n : Nat) (f : Value) (B : Nat) (ok : Nat → Prop) (w : World) (hR : kBk.R 44 w B ok (.slice (some ⟨g, 0, none⟩) L.length cap) L) (hab : a + n ≤ b) (hb : b + n ≤ L.length) (hl : L.length ≤ 1000000000) :
    Calls Tryz.prog 121 #[.slice (some ⟨g, 0, none⟩) L.length cap, .int .i64 a, .int .i64 b, .int .i64 n, f] w (Writes B ok w g L.length cap (Srt.swapF L a b n)) := by
  have HR := Aside0.mk hR
  clear hR
  go_enter Tryz.func121, Tryz.ntmps121
  go_wp2
  go_loopg [10] n (fun gk v wr => ∃ (k : Nat) (C : List Bk), k + gk = n ∧ v = .int .i64 k ∧ Aside0 (C.length = L.length ∧ Srt.swapF C (a + k) (b + k) (n - k) = Srt.swapF L a b n) ∧ Aside0 (RowIs B ok w g L.length cap C wr))
  case atStart => exact ⟨0, L, by omega, rfl, ⟨rfl, by simp⟩, ⟨HR.out, World.grownBy.refl _ _⟩⟩
  case round =>
    clear HR
    obtain ⟨k, C, hk, rfl, HC, HR⟩ := hrel
    have HK := Aside0.mk hk
    by_cases hlt : k < n
    · obtain ⟨x, hx, p0, p1, p2, p3, p4, p5, p6, p7, q0, q1, q2, q3, q4, q5, q6, q7⟩ := row_at HR.out.1 (show a + k < L.length by omega)
      obtain ⟨y, hy, r0, r1, r2, r3, r4, r5, r6, r7, s0, s1, s2, s3, s4, s5, s6, s7⟩ := row_at HR.out.1 (show b + k < L.length by omega)
      have i0 : (0 : Int) ≤ (a : Int) + (k : Int) := by omega
      have i1 : (a : Int) + (k : Int) < (L.length : Int) := by omega
      have i2 : (0 : Int) ≤ (b : Int) + (k : Int) := by omega
      have i3 : (b : Int) + (k : Int) < (L.length : Int) := by omega
      have i4 : ((a : Int) + (k : Int)).toNat = a + k := by omega
      have i5 : ((b : Int) + (k : Int)).toNat = b + k := by omega
      clear hk
      go_wp2_with fail
      go_region
      go_wp2
      have hk := HK.out
      go_roundg (gk - 1)
      case measure => omega
      refine ⟨k + 1, Srt.swp C (a + k) (b + k), by omega, rfl, ⟨?_, ?_⟩, ⟨exch HR.out (by omega) (by omega) hx.out hy.out (by simp only [Bk.cells, World.setCells, Nat.add_assoc, Nat.reduceAdd])⟩⟩
      · rw [Srt.swp_len]; exact HC.out.1
      · have e : n - k = (n - (k + 1)) + 1 := by omega
        have := HC.out.2
        rw [e, Srt.swapF] at this
        simpa [Nat.add_assoc] using this
    · have hk := HK.out
      have hkn : k = n := by omega
      subst hkn
      clear hk
      go_wp2_with fail
      have h1 := HC.out.2
      rw [Nat.sub_self] at h1
      exact bodyPost_end (v := .tuple #[]) (by simp [results, Tryz.results121, go_sem]) rfl ⟨rfl, by have := HR.out; rw [← h1]; exact this⟩
theorem swapRange_i (g n cap : Nat) (L C : List Bk) (a b k : Nat) (x y z : Int) (f : Value) (B : Nat) (ok : Nat → Prop) (w W : World) (h : RowIs B ok w g n cap C W) (hn : C.length = n) (hx : x = a) (hy : y = b) (hz : z = k) (hab : a + k ≤ b) (hb : b + k ≤ n) (hl : n ≤ 1000000000) :
    Calls Tryz.prog 121 #[.slice (some ⟨g, 0, none⟩) n cap, .int .i64 x, .int .i64 y, .int .i64 z, f] W (Writes B ok w g n cap (Srt.swapF C a b k)) := by
  subst hx hy hz hn
  refine (swapRange_c g cap C a b k f B ok W h.1 hab hb hl).mono ?_
  rintro e w' ⟨rfl, h1, h2⟩
  exact ⟨rfl, h1, h.2.trans h2⟩
set_option maxHeartbeats 8000000 in
theorem rotate_c (g n cap : Nat) (L : List Bk) (a m b : Nat) (f : Value) (B : Nat) (ok : Nat → Prop) (w W : World) (hR : RowIs B ok w g n cap L W) (hn : L.length = n) (h1 : a < m) (h2 : m < b) (hb : b ≤ n) (hl : n ≤ 1000000000) :
    Calls Tryz.prog 109 #[.slice (some ⟨g, 0, none⟩) n cap, .int .i64 a, .int .i64 m, .int .i64 b, f] W (Writes B ok w g n cap (Srt.rotd L a m b)) := by
  have HR := Aside0.mk hR
  clear hR
  go_enter Tryz.func109, Tryz.ntmps109
  go_wp2
  go_loopg [10, 11] (b - a) (fun gk v10 v11 wr => ∃ (i j : Nat) (C : List Bk), i + j = gk ∧ v10 = .int .i64 i ∧ v11 = .int .i64 j ∧ Aside0 (0 < i ∧ 0 < j ∧ i ≤ m ∧ m + j ≤ n) ∧ Aside0 (C.length = n ∧ Srt.rotd C (m - i) m (m + j) = Srt.rotd L a m b) ∧ Aside0 (RowIs B ok w g n cap C wr))
  case atStart =>
    refine ⟨m - a, b - m, L, by omega, ?_, ?_, ⟨by omega, by omega, by omega, by omega⟩, ⟨hn, ?_⟩, HR⟩
    · congr 1; omega
    · congr 1; omega
    · rw [show m - (m - a) = a by omega, show m + (b - m) = b by omega]
  case round =>
    clear HR
    obtain ⟨i, j, C, hg, rfl, rfl, HI, HC, HR⟩ := hrel
    have hi := HI.out
    by_cases hij : i = j
    · subst hij
      go_wp2_with fail
      refine (swapRange_i g n cap L C (m - i) m i _ _ _ f B ok w wr HR.out HC.out.1 (by omega) rfl rfl (by omega) (by omega) hl).mono ?_
      rintro e w1 ⟨rfl, h3⟩
      have H3 := Aside0.mk h3
      go_wp2
      have h4 := HC.out.2
      have h5 := Srt.rot_eq (C := C) (i := i) (m := m) (by omega) (by rw [HC.out.1]; omega)
      exact bodyPost_end (v := .tuple #[]) (by simp [results, Tryz.results109, go_sem]) rfl ⟨rfl, by have := H3.out; rw [← h4, ← h5]; exact this⟩
    · by_cases hlt : j < i
      · go_wp2_with fail
        refine (swapRange_i g n cap L C (m - i) m j _ _ _ f B ok w wr HR.out HC.out.1 (by omega) rfl rfl (by omega) (by omega) hl).mono ?_
        rintro e w1 ⟨rfl, h3⟩
        have H3 := Aside0.mk h3
        go_wp2
        go_roundg (i - j + j)
        case measure => omega
        refine ⟨i - j, j, _, rfl, ?_, rfl, ⟨by omega, by omega, by omega, by omega⟩, ⟨?_, ?_⟩, H3⟩
        · congr 1; omega
        · rw [Srt.swapF_len]; exact HC.out.1
        · rw [← HC.out.2, ← Srt.rot_gt hlt (by omega) (by rw [HC.out.1]; omega), show m - (i - j) = m - i + j by omega]
      · go_wp2_with fail
        refine (swapRange_i g n cap L C (m - i) (m + j - i) i _ _ _ f B ok w wr HR.out HC.out.1 (by omega) (by omega) rfl (by omega) (by omega) hl).mono ?_
        rintro e w1 ⟨rfl, h3⟩
        have H3 := Aside0.mk h3
        go_wp2
        go_roundg (i + (j - i))
        case measure => omega
        refine ⟨i, j - i, _, rfl, rfl, ?_, ⟨by omega, by omega, by omega, by omega⟩, ⟨?_, ?_⟩, H3⟩
        · congr 1; omega
        · rw [Srt.swapF_len]; exact HC.out.1
        · rw [← HC.out.2]; exact Srt.rot_lt (C := C) (by omega) (by omega) (by rw [HC.out.1]; omega)
/-- The compare function answers by cm in every world that has grown from w with the row of block g changed. -/
structure CmpOk (f : FuncId) (cf : Array Value) (cm : Bk → Bk → Int) (g : Nat) (w : World) : Prop where
  fn : Fun Tryz.prog f
  call : ∀ W, w.grownBy W (some g) → ∀ x y : Bk, Calls Tryz.prog f (#[x.val, y.val] ++ cf) W (Ret W (.int .i64 (cm x y)))
def ltC (cm : Bk → Bk → Int) (x y : Bk) : Bool := decide (cm x y < 0)
theorem insF_stop {lt : Bk → Bk → Bool} {C : List Bk} {a j : Nat} (h : ¬ a < j) : Srt.insF lt C a j = C := by
  cases j with
  | zero => rfl
  | succ j =>
    unfold Srt.insF
    split
    · rw [if_neg (fun h' => h h'.1)]
    · rfl
theorem insF_go {lt : Bk → Bk → Bool} {C : List Bk} {a j : Nat} {x y : Bk} (h : a < j) (hx : C[j]? = some x) (hy : C[j - 1]? = some y) (hl : lt x y = true) : Srt.insF lt C a j = Srt.insF lt (Srt.swp C j (j - 1)) a (j - 1) := by
  cases j with
  | zero => omega
  | succ j =>
    rw [Nat.add_sub_cancel] at hy ⊢
    conv => lhs; unfold Srt.insF
    rw [hx, hy]
    simp only
    rw [if_pos ⟨h, hl⟩]
theorem insF_no {lt : Bk → Bk → Bool} {C : List Bk} {a j : Nat} {x y : Bk} (hx : C[j]? = some x) (hy : C[j - 1]? = some y) (hl : lt x y = false) : Srt.insF lt C a j = C := by
  cases j with
  | zero => rfl
  | succ j =>
    rw [Nat.add_sub_cancel] at hy
    unfold Srt.insF
    rw [hx, hy]
    simp [hl]
set_option maxHeartbeats 16000000 in
theorem insertion_c (g n cap : Nat) (L : List Bk) (a b : Nat) (f : FuncId) (cf : Array Value) (cm : Bk → Bk → Int) (B : Nat) (ok : Nat → Prop) (w W : World) (hR : RowIs B ok w g n cap L W) (hn : L.length = n) (hab : a ≤ b) (hb : b ≤ n) (hl : n ≤ 1000000000) (hC : CmpOk f cf cm g w) :
    Calls Tryz.prog 85 #[.slice (some ⟨g, 0, none⟩) n cap, .int .i64 a, .int .i64 b, .func (.func f) #[] cf] W (Writes B ok w g n cap (Srt.insS (ltC cm) L a (a + 1) (b - (a + 1)))) := by
  have HR := Aside0.mk hR
  have hcf := hC.fn.run
  have HC := Aside0.mk hC.call
  clear hR hC
  go_enter Tryz.func85, Tryz.ntmps85
  go_wp2
  go_loopg [8] (b - (a + 1)) (fun gk v8 wr => ∃ (i : Nat) (C : List Bk), gk = b - i ∧ v8 = .int .i64 i ∧ Aside0 (a + 1 ≤ i ∧ (i ≤ b ∨ b = a)) ∧ Aside0 (C.length = n ∧ Srt.insS (ltC cm) C a i gk = Srt.insS (ltC cm) L a (a + 1) (b - (a + 1))) ∧ Aside0 (RowIs B ok w g n cap C wr))
  case atStart => exact ⟨a + 1, L, rfl, by go_num, ⟨by omega, by omega⟩, ⟨hn, rfl⟩, HR⟩
  case round =>
    clear HR
    obtain ⟨i, C, hg, rfl, HI, HL, HR⟩ := hrel
    have hi := HI.out
    by_cases hlt : i < b
    · obtain ⟨wo, rfl⟩ : ∃ wo : World, wo = wr := ⟨_, rfl⟩
      obtain ⟨gO, rfl⟩ : ∃ g : Nat, g = gk := ⟨_, rfl⟩
      go_wp2_with fail
      go_loopg [9] i (fun gk v9 wr => ∃ (j : Nat) (D : List Bk), gk = j ∧ v9 = .int .i64 j ∧ Aside0 (j ≤ i) ∧ Aside0 (D.length = n ∧ Srt.insF (ltC cm) D a j = Srt.insF (ltC cm) C a i) ∧ Aside0 (RowIs B ok w g n cap D wr))
      case atStart => exact ⟨i, C, rfl, rfl, ⟨Nat.le_refl _⟩, ⟨HL.out.1, rfl⟩, HR⟩
      case round =>
        clear HR
        obtain ⟨j, D, rfl, rfl, HJ, HD, HR⟩ := hrel
        by_cases hja : a < gk
        · have hj := HJ.out
          obtain ⟨x, hx, p0, p1, p2, p3, p4, p5, p6, p7, q0, q1, q2, q3, q4, q5, q6, q7⟩ := row_at HR.out.1 (show gk < n by omega)
          obtain ⟨y, hy, r0, r1, r2, r3, r4, r5, r6, r7, s0, s1, s2, s3, s4, s5, s6, s7⟩ := row_at HR.out.1 (show gk - 1 < n by omega)
          have e0 : decide ((a : Int) < (gk : Int)) = true := by simpa using hja
          have i0 : (0 : Int) ≤ (gk : Int) := by omega
          have i1 : (gk : Int) < (n : Int) := by omega
          have i2 : (0 : Int) ≤ (gk : Int) - 1 := by omega
          have i3 : (gk : Int) - 1 < (n : Int) := by omega
          have i5 : ((gk : Int) - 1).toNat = gk - 1 := by omega
          have i6 : IntKind.i64.wrap ((gk : Int) - 1) = (gk : Int) - 1 := by simp only [IntKind.wrap, IntKind.bits, IntKind.signed, Bool.true_and, decide_eq_true_eq, ge_iff_le]; split <;> omega
          have i7 : (1 : Int) ≤ (gk : Int) := by omega
          have i8 : (gk : Int) < (n : Int) + 1 := by omega
          go_wp2_with fail
          go_still_tail 14, (by kernel_rfl)
          go_wp2_with fail
          refine (HC.out _ (gr_drew HR.out.2) x y).mono ?_; rintro _ w2 ⟨rfl, hb2⟩
          have HR2 := Aside0.mk (RowIs.below (RowIs.drew HR.out) hb2)
          have hbl := Aside0.mk hb2
          clear hb2
          clear p0 p1 p2 p3 p4 p5 p6 p7 q0 q1 q2 q3 q4 q5 q6 q7 r0 r1 r2 r3 r4 r5 r6 r7 s0 s1 s2 s3 s4 s5 s6 s7
          by_cases hc : cm x y < 0
          · have e4 : decide (cm x y < 0) = true := by simpa using hc
            obtain ⟨p0, p1, p2, p3, p4, p5, p6, p7, q0, q1, q2, q3, q4, q5, q6, q7⟩ := row_of HR2.out.1 (show gk < n by omega) hx.out
            obtain ⟨r0, r1, r2, r3, r4, r5, r6, r7, s0, s1, s2, s3, s4, s5, s6, s7⟩ := row_of HR2.out.1 (show gk - 1 < n by omega) hy.out
            have e5 : ((gk - 1 : Nat) : Int) = (gk : Int) - 1 := by omega
            go_wp2_with fail
            go_region
            go_wp2
            go_roundg (gk - 1)
            case measure => omega
            exact ⟨gk - 1, Srt.swp D gk (gk - 1), rfl, by rw [e5], ⟨by omega⟩, ⟨by rw [Srt.swp_len]; exact HD.out.1, by rw [← HD.out.2, insF_go hja hx.out hy.out e4]⟩, ⟨exch HR2.out (by omega) (by omega) hx.out hy.out (by simp only [Bk.cells, World.setCells, Nat.add_assoc, Nat.reduceAdd])⟩⟩
          · have e4 : decide (cm x y < 0) = false := by simpa using hc
            go_wp2_with fail
            go_roundg (gO - 1)
            case measure => omega
            exact ⟨i + 1, D, by omega, by go_num, ⟨by omega, by omega⟩, ⟨HD.out.1, by rw [← HL.out.2, show gO = (gO - 1) + 1 by omega, Srt.insS, ← HD.out.2, insF_no hx.out hy.out e4]; rfl⟩, HR2⟩
        · have e0 : decide ((a : Int) < (gk : Int)) = false := by simpa using hja
          go_wp2_with fail
          go_quiet (fail)
          go_wp2
          go_roundg (gO - 1)
          case measure => omega
          exact ⟨i + 1, D, by omega, by go_num, ⟨by omega, by omega⟩, ⟨HD.out.1, by rw [← HL.out.2, show gO = (gO - 1) + 1 by omega, Srt.insS, ← HD.out.2, insF_stop hja]; rfl⟩, ⟨RowIs.drewN HR.out _⟩⟩
    · go_wp2_with fail
      have h1 := HL.out.2
      rw [show gk = 0 by omega, Srt.insS] at h1
      exact bodyPost_end (v := .tuple #[]) (by simp [results, Tryz.results85, go_sem]) rfl ⟨rfl, by have := HR.out; rw [← h1]; exact this⟩
end Go.Proofs.YtkoaangakmpggaaGreatDoor
end
section
/- The library's merge of two runs of books; The library's merge of two runs of books: a right run of one; The library's merge of two runs of books: the general step. -/
namespace Go.Proofs.YtkoaangakmpggaaGreatDoor
open Go.RowKit Go.Proofs.YtkoaangakmpggaaGreatDoorW.PrintWords Go.Proofs.YtkoaangakmpggaaGreatDoorW.PrintMore
set_option linter.unusedVariables false
set_option linter.unusedSimpArgs false
set_option maxRecDepth 100000

/-- Behind the call the elements from a to b stand merged. -/
def Merged (B : Nat) (ok : Nat → Prop) (w : World) (g n cap : Nat) (lt : Bk → Bk → Bool) (a b : Nat) (L : List Bk) (en : Ending) (w' : World) : Prop := en = .returned (.tuple #[]) ∧ ∃ L', RowIs B ok w g n cap L' w' ∧ L'.length = n ∧ Srt.Done lt a b L L'
theorem mid_eq {i j : Nat} (hi : i ≤ 1000000000) (hj : j ≤ 1000000000) : ((i : Int) + (j : Int)) / 2 = ((i + j) / 2 : Nat) := by omega
set_option maxHeartbeats 16000000 in
theorem merge1_c (g n cap : Nat) (L : List Bk) (a m b : Nat) (f : FuncId) (cf : Array Value) (cm : Bk → Bk → Int) (hw : Srt.Wk (ltC cm)) (B : Nat) (ok : Nat → Prop) (w W : World) (hR : RowIs B ok w g n cap L W) (hn : L.length = n) (hm : m = a + 1) (hP : Srt.Pre (ltC cm) L a m b) (h2 : m < b) (hb : b ≤ n) (hl : n ≤ 1000000000) (hC : CmpOk f cf cm g w) :
    Calls Tryz.prog 86 #[.slice (some ⟨g, 0, none⟩) n cap, .int .i64 a, .int .i64 m, .int .i64 b, .func (.func f) #[] cf] W (Merged B ok w g n cap (ltC cm) a b L) := by
  have HR := Aside0.mk hR
  have hcf := hC.fn.run
  have HC := Aside0.mk hC.call
  have HM := Aside0.mk hP
  have HN := Aside0.mk hn
  clear hR hC
  obtain ⟨x, hx⟩ : ∃ x, L[a]? = some x := ⟨_, List.getElem?_eq_getElem (by omega)⟩
  have HX := Aside0.mk hx
  have hma : (m : Int) - (a : Int) = 1 := by omega
  have HE := Aside0.mk hm
  have hma1 : a < m := by omega
  have HF := Aside0.mk (Srt.falls_left hw (hm ▸ hP))
  clear hx hn hm hP
  go_enter Tryz.func86, Tryz.ntmps86
  go_wp2
  go_loopg [10, 11] (b - m) (fun gk v10 v11 wr => ∃ (i j : Nat), gk = j - i ∧ v10 = .int .i64 i ∧ v11 = .int .i64 j ∧ Aside0 (Srt.Half (fun k => Srt.ltAt (ltC cm) L k a) m b i j) ∧ Aside0 (RowIs B ok w g n cap L wr))
  case atStart => exact ⟨m, b, rfl, rfl, rfl, ⟨Srt.Half.start (by omega)⟩, HR⟩
  case round =>
    clear HR
    obtain ⟨i, j, hg, rfl, rfl, HI, HR⟩ := hrel
    have hi := HI.out.1
    have hij := HI.out.2.1
    have hj := HI.out.2.2.1
    have h3 := HN.out
    by_cases hlt : i < j
    · have hmid := mid_eq (i := i) (j := j) (by omega) (by omega)
      obtain ⟨p0, p1, p2, p3, p4, p5, p6, p7, q0, q1, q2, q3, q4, q5, q6, q7⟩ := row_of HR.out.1 (show a < n by omega) HX.out
      obtain ⟨h, hh⟩ : ∃ h, h = (i + j) / 2 := ⟨_, rfl⟩
      have hh1 : i ≤ h ∧ h < j := by omega
      rw [← hh] at hmid
      clear hh
      obtain ⟨y, hy, r0, r1, r2, r3, r4, r5, r6, r7, s0, s1, s2, s3, s4, s5, s6, s7⟩ := row_at HR.out.1 (show h < n by omega)
      have i0 : (0 : Int) ≤ (h : Int) := by omega
      have i1 : (h : Int) < (n : Int) := by omega
      have i2 : (0 : Int) ≤ (a : Int) := by omega
      have i3 : (a : Int) < (n : Int) := by omega
      go_wp2_with fail
      go_still_tail 9, (by kernel_rfl)
      go_wp2_with fail
      refine (HC.out _ (gr_drew HR.out.2) y x).mono ?_; rintro _ w2 ⟨rfl, hb2⟩
      have HR2 := Aside0.mk (RowIs.below (RowIs.drew HR.out) hb2)
      have hla := Srt.ltAt_of (lt := ltC cm) hy.out HX.out
      clear hb2 p0 p1 p2 p3 p4 p5 p6 p7 q0 q1 q2 q3 q4 q5 q6 q7 r0 r1 r2 r3 r4 r5 r6 r7 s0 s1 s2 s3 s4 s5 s6 s7
      by_cases hc : cm y x < 0
      · have e4 : decide (cm y x < 0) = true := by simpa using hc
        have HH := Aside0.mk (HI.out.yes (by rw [HE.out]; exact HF.out) hh1.1 hh1.2 (hla.trans e4))
        clear hla
        go_wp2_with fail
        go_roundg (j - (h + 1))
        case measure => omega
        exact ⟨h + 1, j, rfl, by go_num, rfl, HH, HR2⟩
      · have e4 : decide (cm y x < 0) = false := by simpa using hc
        have HH := Aside0.mk (HI.out.no (by rw [HE.out]; exact HF.out) hh1.1 hh1.2 (hla.trans e4))
        clear hla
        go_wp2_with fail
        go_roundg (h - i)
        case measure => omega
        exact ⟨i, h, rfl, rfl, rfl, HH, HR2⟩
    · obtain rfl : i = j := by omega
      have HD := Aside0.mk (Srt.merge_left hw (HE.out ▸ HM.out) (show Srt.Half (fun k => Srt.ltAt (ltC cm) L k a) (a + 1) b i i by rw [← HE.out]; exact HI.out))
      obtain ⟨wo, rfl⟩ : ∃ wo : World, wo = wr := ⟨_, rfl⟩
      obtain ⟨gO, rfl⟩ : ∃ g : Nat, g = gk := ⟨_, rfl⟩
      clear hg h3 hlt hij
      go_wp2_with fail
      go_loopg [13] (i - (a + 1)) (fun gk v13 wr => ∃ (k : Nat) (D : List Bk), gk = i - (k + 1) ∧ v13 = .int .i64 k ∧ Aside0 (D.length = n ∧ Srt.upF D k gk = Srt.upF L a (i - (a + 1))) ∧ Aside0 (RowIs B ok w g n cap D wr))
      case atStart => exact ⟨a, L, rfl, rfl, ⟨HN.out, rfl⟩, HR⟩
      case round =>
        clear HR
        obtain ⟨k, D, hg, rfl, HL, HR⟩ := hrel
        by_cases hlt : k + 1 < i
        · obtain ⟨x, hx, p0, p1, p2, p3, p4, p5, p6, p7, q0, q1, q2, q3, q4, q5, q6, q7⟩ := row_at HR.out.1 (show k < n by omega)
          obtain ⟨y, hy, r0, r1, r2, r3, r4, r5, r6, r7, s0, s1, s2, s3, s4, s5, s6, s7⟩ := row_at HR.out.1 (show k + 1 < n by omega)
          have i0 : (0 : Int) ≤ (k : Int) := by omega
          have i1 : (k : Int) < (n : Int) := by omega
          have i2 : (0 : Int) ≤ (k : Int) + 1 := by omega
          have i3 : (k : Int) + 1 < (n : Int) := by omega
          have i4 : ((k : Int) + 1).toNat = k + 1 := by omega
          have i5 : (k : Int) < (i : Int) - 1 := by omega
          go_wp2_with fail
          go_region
          go_wp2
          go_roundg (gk - 1)
          case measure => omega
          refine ⟨k + 1, Srt.swp D k (k + 1), by omega, by go_num, ⟨?_, ?_⟩, ⟨exch HR.out (by omega) (by omega) hx.out hy.out (by simp only [Bk.cells, World.setCells, Nat.add_assoc, Nat.reduceAdd])⟩⟩
          · rw [Srt.swp_len]; exact HL.out.1
          · rw [← HL.out.2, show gk = (gk - 1) + 1 by omega, Srt.upF]; rfl
        · have i5 : ¬ (k : Int) < (i : Int) - 1 := by omega
          go_wp2_with fail
          have h1 := HL.out.2
          rw [show gk = 0 by omega, Srt.upF] at h1
          exact bodyPost_ret (v := .tuple #[]) (by simp [results, Tryz.results86, go_sem]) rfl ⟨rfl, _, by have := HR.out; rw [h1] at this; exact this, by rw [← h1]; exact HL.out.1, HD.out⟩
set_option maxHeartbeats 16000000 in
theorem merge2_c (g n cap : Nat) (L : List Bk) (a m b : Nat) (f : FuncId) (cf : Array Value) (cm : Bk → Bk → Int) (hw : Srt.Wk (ltC cm)) (B : Nat) (ok : Nat → Prop) (w W : World) (hR : RowIs B ok w g n cap L W) (hn : L.length = n) (hm : b = m + 1) (hma : m ≠ a + 1) (hP : Srt.Pre (ltC cm) L a m b) (h1 : a < m) (hb : b ≤ n) (hl : n ≤ 1000000000) (hC : CmpOk f cf cm g w) :
    Calls Tryz.prog 86 #[.slice (some ⟨g, 0, none⟩) n cap, .int .i64 a, .int .i64 m, .int .i64 b, .func (.func f) #[] cf] W (Merged B ok w g n cap (ltC cm) a b L) := by
  have HR := Aside0.mk hR
  have hcf := hC.fn.run
  have HC := Aside0.mk hC.call
  have HM := Aside0.mk hP
  have HN := Aside0.mk hn
  clear hR hC
  obtain ⟨x, hx⟩ : ∃ x, L[m]? = some x := ⟨_, List.getElem?_eq_getElem (by omega)⟩
  have HX := Aside0.mk hx
  have hbm : (b : Int) - (m : Int) = 1 := by omega
  have hna : ((m : Int) - (a : Int) == 1) = false := by simp; omega
  have HE := Aside0.mk hm
  have hmb : m < b := by omega
  have hmn : m < n := by omega
  have HF := Aside0.mk (Srt.falls_right hw (hm ▸ hP))
  clear hx hn hm hP hma
  go_enter Tryz.func86, Tryz.ntmps86
  go_wp2
  go_loopg [14, 15] (m - a) (fun gk v14 v15 wr => ∃ (i j : Nat), gk = j - i ∧ v14 = .int .i64 i ∧ v15 = .int .i64 j ∧ Aside0 (Srt.Half (fun k => !Srt.ltAt (ltC cm) L m k) a m i j) ∧ Aside0 (RowIs B ok w g n cap L wr))
  case atStart => exact ⟨a, m, rfl, rfl, rfl, ⟨Srt.Half.start (by omega)⟩, HR⟩
  case round =>
    clear HR
    obtain ⟨i, j, hg, rfl, rfl, HI, HR⟩ := hrel
    have hi := HI.out.1
    have hij := HI.out.2.1
    have hj := HI.out.2.2.1
    have h3 := HN.out
    by_cases hlt : i < j
    · have hmid := mid_eq (i := i) (j := j) (by omega) (by omega)
      obtain ⟨p0, p1, p2, p3, p4, p5, p6, p7, q0, q1, q2, q3, q4, q5, q6, q7⟩ := row_of HR.out.1 (show m < n by omega) HX.out
      obtain ⟨h, hh⟩ : ∃ h, h = (i + j) / 2 := ⟨_, rfl⟩
      have hh1 : i ≤ h ∧ h < j := by omega
      rw [← hh] at hmid
      clear hh
      obtain ⟨y, hy, r0, r1, r2, r3, r4, r5, r6, r7, s0, s1, s2, s3, s4, s5, s6, s7⟩ := row_at HR.out.1 (show h < n by omega)
      have i0 : (0 : Int) ≤ (h : Int) := by omega
      have i1 : (h : Int) < (n : Int) := by omega
      have i2 : (0 : Int) ≤ (m : Int) := by omega
      have i3 : (m : Int) < (n : Int) := by omega
      go_wp2_with fail
      go_still_tail 9, (by kernel_rfl)
      go_wp2_with fail
      refine (HC.out _ (gr_drew HR.out.2) x y).mono ?_; rintro _ w2 ⟨rfl, hb2⟩
      have HR2 := Aside0.mk (RowIs.below (RowIs.drew HR.out) hb2)
      have hla := Srt.ltAt_of (lt := ltC cm) HX.out hy.out
      clear hb2 p0 p1 p2 p3 p4 p5 p6 p7 q0 q1 q2 q3 q4 q5 q6 q7 r0 r1 r2 r3 r4 r5 r6 r7 s0 s1 s2 s3 s4 s5 s6 s7
      by_cases hc : cm x y < 0
      · have e4 : decide (cm x y < 0) = true := by simpa using hc
        have HH := Aside0.mk (HI.out.no HF.out hh1.1 hh1.2 (by show (!Srt.ltAt (ltC cm) L m h) = _; rw [hla, show ltC cm x y = _ from e4]; rfl))
        clear hla
        go_wp2_with fail
        go_roundg (h - i)
        case measure => omega
        exact ⟨i, h, rfl, rfl, rfl, HH, HR2⟩
      · have e4 : decide (cm x y < 0) = false := by simpa using hc
        have HH := Aside0.mk (HI.out.yes HF.out hh1.1 hh1.2 (by show (!Srt.ltAt (ltC cm) L m h) = _; rw [hla, show ltC cm x y = _ from e4]; rfl))
        clear hla
        go_wp2_with fail
        go_roundg (j - (h + 1))
        case measure => omega
        exact ⟨h + 1, j, rfl, by go_num, rfl, HH, HR2⟩
    · obtain rfl : i = j := by omega
      have HD := Aside0.mk (Srt.merge_right hw (HE.out ▸ HM.out) HI.out)
      obtain ⟨wo, rfl⟩ : ∃ wo : World, wo = wr := ⟨_, rfl⟩
      obtain ⟨gO, rfl⟩ : ∃ g : Nat, g = gk := ⟨_, rfl⟩
      clear hg h3 hlt hij
      go_wp2_with fail
      go_loopg [17] (m - i) (fun gk v17 wr => ∃ (k : Nat) (D : List Bk), i + gk = k ∧ v17 = .int .i64 k ∧ Aside0 (k ≤ m) ∧ Aside0 (D.length = n ∧ Srt.downF D k gk = Srt.downF L m (m - i)) ∧ Aside0 (RowIs B ok w g n cap D wr))
      case atStart => exact ⟨m, L, by omega, rfl, ⟨Nat.le_refl _⟩, ⟨HN.out, rfl⟩, HR⟩
      case round =>
        clear HR
        obtain ⟨k, D, hg, rfl, HKM, HL, HR⟩ := hrel
        have hkm := HKM.out
        by_cases hlt : i < k
        · obtain ⟨x, hx, p0, p1, p2, p3, p4, p5, p6, p7, q0, q1, q2, q3, q4, q5, q6, q7⟩ := row_at HR.out.1 (show k < n by omega)
          obtain ⟨y, hy, r0, r1, r2, r3, r4, r5, r6, r7, s0, s1, s2, s3, s4, s5, s6, s7⟩ := row_at HR.out.1 (show k - 1 < n by omega)
          have HG := Aside0.mk hg
          clear hg
          have i0 : (0 : Int) ≤ (k : Int) := by omega
          have i1 : (k : Int) < (n : Int) := by omega
          have i2 : (0 : Int) ≤ (k : Int) - 1 := by omega
          have i3 : (k : Int) - 1 < (n : Int) := by omega
          have i5 : ((k : Int) - 1).toNat = k - 1 := by omega
          have i6 : IntKind.i64.wrap ((k : Int) - 1) = (k : Int) - 1 := by simp only [IntKind.wrap, IntKind.bits, IntKind.signed, Bool.true_and, decide_eq_true_eq, ge_iff_le]; split <;> omega
          have i7 : (1 : Int) ≤ (k : Int) := by omega
          have i8 : (k : Int) < (n : Int) + 1 := by omega
          have e5 : ((k - 1 : Nat) : Int) = (k : Int) - 1 := by omega
          go_wp2_with fail
          go_region
          go_wp2
          have hg := HG.out
          go_roundg (gk - 1)
          case measure => omega
          refine ⟨k - 1, Srt.swp D k (k - 1), by omega, by rw [e5], ⟨by omega⟩, ⟨?_, ?_⟩, ⟨exch HR.out (by omega) (by omega) hx.out hy.out (by simp only [Bk.cells, World.setCells, Nat.add_assoc, Nat.reduceAdd])⟩⟩
          · rw [Srt.swp_len]; exact HL.out.1
          · rw [← HL.out.2, show gk = (gk - 1) + 1 by omega, Srt.downF]; rfl
        · go_wp2_with fail
          have h1 := HL.out.2
          rw [show gk = 0 by omega, Srt.downF] at h1
          exact bodyPost_ret (v := .tuple #[]) (by simp [results, Tryz.results86, go_sem]) rfl ⟨rfl, _, by have := HR.out; rw [h1] at this; exact this, by rw [← h1]; exact HL.out.1, by rw [HE.out]; exact HD.out⟩
theorem rotd_l {α : Type} (L : List α) (m e : Nat) (h : m ≤ e) : Srt.rotd L m m e = L := by
  unfold Srt.rotd
  have h1 : (L.take m).drop m = [] := List.drop_of_length_le (by simp; omega)
  rw [h1, List.nil_append]
  have h2 : (L.take e).drop m ++ L.drop e = L.drop m := by
    rw [List.drop_take]
    have := List.take_append_drop (e - m) (L.drop m)
    rw [List.drop_drop, show m + (e - m) = e by omega] at this
    exact this
  rw [h2, List.take_append_drop]
theorem rotd_r {α : Type} (L : List α) (s m : Nat) (h : s ≤ m) : Srt.rotd L s m m = L := by
  unfold Srt.rotd
  have h1 : (L.take m).drop m = [] := List.drop_of_length_le (by simp; omega)
  rw [h1, List.nil_append]
  have h2 : (L.take m).drop s ++ L.drop m = L.drop s := by
    rw [List.drop_take]
    have := List.take_append_drop (m - s) (L.drop s)
    rw [List.drop_drop, show s + (m - s) = m by omega] at this
    exact this
  rw [h2, List.take_append_drop]
/-- What a call of the merge does. -/
def MergeOk (g n cap : Nat) (f : FuncId) (cf : Array Value) (cm : Bk → Bk → Int) (B : Nat) (ok : Nat → Prop) (w : World) (a m b : Nat) : Prop :=
  ∀ (L : List Bk) (W : World), RowIs B ok w g n cap L W → L.length = n → Srt.Pre (ltC cm) L a m b → a < m → m < b → b ≤ n →
    Calls Tryz.prog 86 #[.slice (some ⟨g, 0, none⟩) n cap, .int .i64 a, .int .i64 m, .int .i64 b, .func (.func f) #[] cf] W (Merged B ok w g n cap (ltC cm) a b L)
set_option maxHeartbeats 32000000 in
theorem merge3_c (g n cap : Nat) (L : List Bk) (a m b : Nat) (f : FuncId) (cf : Array Value) (cm : Bk → Bk → Int) (hw : Srt.Wk (ltC cm)) (B : Nat) (ok : Nat → Prop) (w W : World) (hR : RowIs B ok w g n cap L W) (hn : L.length = n) (hm1 : m ≠ a + 1) (hm2 : b ≠ m + 1) (hP : Srt.Pre (ltC cm) L a m b) (h1 : a < m) (h2 : m < b) (hb : b ≤ n) (hl : n ≤ 1000000000) (hC : CmpOk f cf cm g w)
    (hI : ∀ a' m' b', b' - a' < b - a → MergeOk g n cap f cf cm B ok w a' m' b') :
    Calls Tryz.prog 86 #[.slice (some ⟨g, 0, none⟩) n cap, .int .i64 a, .int .i64 m, .int .i64 b, .func (.func f) #[] cf] W (Merged B ok w g n cap (ltC cm) a b L) := by
  have HR := Aside0.mk hR
  have hcf := hC.fn.run
  have HC := Aside0.mk hC.call
  have HN := Aside0.mk hn
  have HIH := Aside0.mk hI
  have HRG := Aside0.mk (Srt.range_ok h1 h2)
  have HF := Aside0.mk (Srt.falls_gen hw hP h1 h2)
  have HST := Aside0.mk (fun s => Srt.step_gen hw (s := s) hP h1 h2)
  have hna : ((m : Int) - (a : Int) == 1) = false := by simp; omega
  have hnb : ((b : Int) - (m : Int) == 1) = false := by simp; omega
  have hmid := mid_eq (i := a) (j := b) (by omega) (by omega)
  obtain ⟨d, hd⟩ : ∃ d, d = (a + b) / 2 := ⟨_, rfl⟩
  have hd1 : a < d ∧ d < b := by omega
  have HDD := Aside0.mk hd
  rw [← hd] at hmid
  have HHF := Aside0.mk (show Srt.Half (Srt.test (ltC cm) L a m b) (Srt.lo0 a m b) (Srt.hi0 a m b) (Srt.lo0 a m b) (Srt.hi0 a m b) from Srt.Half.start HRG.out.2.1)
  clear hR hC hn hI hm1 hm2 hP hd
  by_cases hdm : d < m
  · have HLO := Aside0.mk (show Srt.lo0 a m b = (d + m - b) by have := HDD.out; unfold Srt.lo0; rw [if_pos (by omega)]; omega)
    have HHI := Aside0.mk (show Srt.hi0 a m b = d by have := HDD.out; unfold Srt.hi0; rw [if_pos (by omega)]; omega)
    have hlo : 0 ≤ (d : Int) + (m : Int) - (b : Int) := by have := HRG.out; have := HDD.out; omega
    go_enter Tryz.func86, Tryz.ntmps86
    go_wp2
    go_loopg [20, 21] (Srt.hi0 a m b - Srt.lo0 a m b) (fun gk v20 v21 wr => ∃ (i j : Nat), gk = j - i ∧ v20 = .int .i64 i ∧ v21 = .int .i64 j ∧ Aside0 (Srt.Half (Srt.test (ltC cm) L a m b) (Srt.lo0 a m b) (Srt.hi0 a m b) i j) ∧ Aside0 (RowIs B ok w g n cap L wr))
    case atStart =>
      refine ⟨Srt.lo0 a m b, Srt.hi0 a m b, rfl, ?_, ?_, HHF, HR⟩
      · rw [HLO.out] <;> (congr 1; omega)
      · rw [HHI.out]
    case round =>
      clear HR
      obtain ⟨i, j, hg, rfl, rfl, HI, HR⟩ := hrel
      have hi := HI.out.1
      have hij := HI.out.2.1
      have hj := HI.out.2.2.1
      have h3 := HN.out
      have h4 := HRG.out
      have h5 := HDD.out
      rw [← h5] at h4
      have hiB : a ≤ i ∧ d + m ≤ i + b ∧ j ≤ m ∧ j ≤ d := by omega
      clear hi hj h4 h5
      by_cases hlt : i < j
      · have hmid := mid_eq (i := i) (j := j) (by omega) (by omega)
        obtain ⟨h, hh⟩ : ∃ h, h = (i + j) / 2 := ⟨_, rfl⟩
        have hh1 : i ≤ h ∧ h < j := by omega
        rw [← hh] at hmid
        clear hh
        obtain ⟨q, hq⟩ : ∃ q : Nat, q = d + m - 1 - h := ⟨_, rfl⟩
        have hq1 : (d : Int) + (m : Int) - 1 - (h : Int) = (q : Int) := by omega
        have hq2 : q < n := by omega
        have HQ := Aside0.mk hq
        clear hq
        obtain ⟨y, hy, p0, p1, p2, p3, p4, p5, p6, p7, q0, q1, q2, q3, q4, q5, q6, q7⟩ := row_at HR.out.1 (show h < n by omega)
        obtain ⟨x, hx, r0, r1, r2, r3, r4, r5, r6, r7, s0, s1, s2, s3, s4, s5, s6, s7⟩ := row_at HR.out.1 (show q < n by omega)
        have i0 : (0 : Int) ≤ (h : Int) := by omega
        have i1 : (h : Int) < (n : Int) := by omega
        have i2 : (0 : Int) ≤ (q : Int) := by omega
        have i3 : (q : Int) < (n : Int) := by omega
        have i6 : IntKind.i64.wrap (q : Int) = (q : Int) := by simp only [IntKind.wrap, IntKind.bits, IntKind.signed, Bool.true_and, decide_eq_true_eq, ge_iff_le]; split <;> omega
        have htest : Srt.test (ltC cm) L a m b h = !(ltC cm x y) := by
          unfold Srt.test
          rw [← HDD.out, ← HQ.out, Srt.ltAt_of hx.out hy.out]
        have HT := Aside0.mk htest
        clear htest
        go_wp2_with fail
        go_still_tail 11, (by kernel_rfl)
        go_wp2_with fail
        refine (HC.out _ (gr_drew HR.out.2) x y).mono ?_; rintro _ w2 ⟨rfl, hb2⟩
        have HR2 := Aside0.mk (RowIs.below (RowIs.drew HR.out) hb2)
        clear hb2 p0 p1 p2 p3 p4 p5 p6 p7 q0 q1 q2 q3 q4 q5 q6 q7 r0 r1 r2 r3 r4 r5 r6 r7 s0 s1 s2 s3 s4 s5 s6 s7
        by_cases hc : cm x y < 0
        · have e4 : decide (cm x y < 0) = true := by simpa using hc
          have HH := Aside0.mk (HI.out.no HF.out hh1.1 hh1.2 (HT.out.trans (by rw [show ltC cm x y = _ from e4]; rfl)))
          go_wp2_with fail
          go_roundg (h - i)
          case measure => omega
          exact ⟨i, h, rfl, rfl, rfl, HH, HR2⟩
        · have e4 : decide (cm x y < 0) = false := by simpa using hc
          have HH := Aside0.mk (HI.out.yes HF.out hh1.1 hh1.2 (HT.out.trans (by rw [show ltC cm x y = _ from e4]; rfl)))
          go_wp2_with fail
          go_roundg (j - (h + 1))
          case measure => omega
          exact ⟨h + 1, j, rfl, by go_num, rfl, HH, HR2⟩
      · obtain rfl : i = j := by omega
        have hS := HST.out i HI.out
        obtain ⟨t, ht⟩ : ∃ t : Nat, t = d + m - i := ⟨_, rfl⟩
        have ht1 : (d : Int) + (m : Int) - (i : Int) = (t : Int) := by omega
        have hle := hS.le1
        rw [← HDD.out, ← ht] at hle
        have hS1 : ∃ L1, L1 = Srt.rotd L i m t := ⟨_, rfl⟩
        obtain ⟨L1, hL1⟩ := hS1
        have hL1n : L1.length = n := by rw [hL1, Srt.rotd_len L hle.2.1 hle.2.2.1 (by rw [HN.out]; omega)]; exact HN.out
        have HSL := Aside0.mk (show Srt.Pre (ltC cm) L1 a i d by have := hS.left; rw [← HDD.out, ← ht, ← hL1] at this; exact this)
        have HSR := Aside0.mk (show ∀ L2, Srt.Done (ltC cm) a d L1 L2 → Srt.Pre (ltC cm) L2 d t b by have := hS.right; rw [← HDD.out, ← ht, ← hL1] at this; exact this)
        have HSA := Aside0.mk (show ∀ L2 L3, Srt.Done (ltC cm) a d L1 L2 → Srt.Done (ltC cm) d b L2 L3 → Srt.Done (ltC cm) a b L L3 by have := hS.all; rw [← HDD.out, ← ht, ← hL1] at this; exact this)
        have HL1 := Aside0.mk hL1
        have HLN := Aside0.mk hL1n
        clear hS ht hL1 hL1n hij hg
        by_cases hg1 : i < m ∧ m < t
        · have e1 : decide ((i : Int) < (m : Int)) = true := by simpa using hg1.1
          have e2 : decide ((m : Int) < (t : Int)) = true := by simpa using hg1.2
          go_wp2_with fail
          refine (rotate_c g n cap L i m t _ B ok w _ HR.out HN.out hg1.1 hg1.2 (by omega) hl).mono ?_
          rintro e w3 ⟨rfl, h6⟩
          have H1 := Aside0.mk (show RowIs B ok w g n cap L1 w3 by rw [HL1.out]; exact h6)
          clear h6
          by_cases hg2 : a < i ∧ i < d
          · have e3 : decide ((a : Int) < (i : Int)) = true := by simpa using hg2.1
            have e4 : decide ((i : Int) < (d : Int)) = true := by simpa using hg2.2
            go_wp2_with fail
            refine (HIH.out a i d (by omega) L1 _ H1.out HLN.out HSL.out hg2.1 hg2.2 (by omega)).mono ?_
            rintro e w4 ⟨rfl, L2, h6, h7, h8⟩
            have H2 := Aside0.mk h6
            have HD2 := Aside0.mk h8
            have HL2 := Aside0.mk h7
            clear h6 h7 h8
            by_cases hg3 : d < t ∧ t < b
            · have e5 : decide ((d : Int) < (t : Int)) = true := by simpa using hg3.1
              have e6 : decide ((t : Int) < (b : Int)) = true := by simpa using hg3.2
              go_wp2_with fail
              refine (HIH.out d t b (by omega) L2 _ H2.out HL2.out (HSR.out L2 HD2.out) hg3.1 hg3.2 hb).mono ?_
              rintro e w5 ⟨rfl, L3, h6, h7, h8⟩
              have H3 := Aside0.mk h6
              have HD3 := Aside0.mk h8
              have HL3 := Aside0.mk h7
              clear h6 h7 h8
              go_wp2_with fail
              exact bodyPost_end (v := .tuple #[]) (by simp [results, Tryz.results86, go_sem]) rfl ⟨rfl, L3, H3.out, HL3.out, HSA.out L2 L3 HD2.out HD3.out⟩
            · have HD3 := Aside0.mk (Srt.Pre.done (HSR.out L2 HD2.out) (by omega))
              by_cases hg4 : d < t
              · have e5 : decide ((d : Int) < (t : Int)) = true := by simpa using hg4
                have e6 : decide ((t : Int) < (b : Int)) = false := by simp; omega
                go_wp2_with fail
                exact bodyPost_end (v := .tuple #[]) (by simp [results, Tryz.results86, go_sem]) rfl ⟨rfl, L2, H2.out, HL2.out, HSA.out L2 L2 HD2.out HD3.out⟩
              · have e5 : decide ((d : Int) < (t : Int)) = false := by simpa using hg4
                go_wp2_with fail
                exact bodyPost_end (v := .tuple #[]) (by simp [results, Tryz.results86, go_sem]) rfl ⟨rfl, L2, H2.out, HL2.out, HSA.out L2 L2 HD2.out HD3.out⟩
          · have HD2 := Aside0.mk (Srt.Pre.done HSL.out (by omega))
            obtain ⟨L2, rfl⟩ : ∃ L2, L2 = L1 := ⟨_, rfl⟩
            have H2 := H1
            have HL2 := HLN
            by_cases hg5 : a < i
            · have e3 : decide ((a : Int) < (i : Int)) = true := by simpa using hg5
              have e4 : decide ((i : Int) < (d : Int)) = false := by simp; omega
              by_cases hg3 : d < t ∧ t < b
              · have e5 : decide ((d : Int) < (t : Int)) = true := by simpa using hg3.1
                have e6 : decide ((t : Int) < (b : Int)) = true := by simpa using hg3.2
                go_wp2_with fail
              · have HD3 := Aside0.mk (Srt.Pre.done (HSR.out L2 HD2.out) (by omega))
                by_cases hg4 : d < t
                · have e5 : decide ((d : Int) < (t : Int)) = true := by simpa using hg4
                  have e6 : decide ((t : Int) < (b : Int)) = false := by simp; omega
                  go_wp2_with fail
                · have e5 : decide ((d : Int) < (t : Int)) = false := by simpa using hg4
                  go_wp2_with fail
            · have e3 : decide ((a : Int) < (i : Int)) = false := by simpa using hg5
              by_cases hg3 : d < t ∧ t < b
              · have e5 : decide ((d : Int) < (t : Int)) = true := by simpa using hg3.1
                have e6 : decide ((t : Int) < (b : Int)) = true := by simpa using hg3.2
                go_wp2_with fail
                refine (HIH.out d t b (by omega) L2 _ H2.out HL2.out (HSR.out L2 HD2.out) hg3.1 hg3.2 hb).mono ?_
                rintro e w5 ⟨rfl, L3, h6, h7, h8⟩
                have H3 := Aside0.mk h6
                have HD3 := Aside0.mk h8
                have HL3 := Aside0.mk h7
                clear h6 h7 h8
                go_wp2_with fail
                exact bodyPost_end (v := .tuple #[]) (by simp [results, Tryz.results86, go_sem]) rfl ⟨rfl, L3, H3.out, HL3.out, HSA.out L2 L3 HD2.out HD3.out⟩
              · have HD3 := Aside0.mk (Srt.Pre.done (HSR.out L2 HD2.out) (by omega))
                by_cases hg4 : d < t
                · have e5 : decide ((d : Int) < (t : Int)) = true := by simpa using hg4
                  have e6 : decide ((t : Int) < (b : Int)) = false := by simp; omega
                  go_wp2_with fail
                  exact bodyPost_end (v := .tuple #[]) (by simp [results, Tryz.results86, go_sem]) rfl ⟨rfl, L2, H2.out, HL2.out, HSA.out L2 L2 HD2.out HD3.out⟩
                · have e5 : decide ((d : Int) < (t : Int)) = false := by simpa using hg4
                  go_wp2_with fail
                  exact bodyPost_end (v := .tuple #[]) (by simp [results, Tryz.results86, go_sem]) rfl ⟨rfl, L2, H2.out, HL2.out, HSA.out L2 L2 HD2.out HD3.out⟩
        · have H1 := Aside0.mk (show RowIs B ok w g n cap L1 wr by
            rw [HL1.out]
            rcases (show i = m ∨ m = t by omega) with e | e
            · rw [← e, rotd_l L i t (by omega)]; exact HR.out
            · rw [← e, rotd_r L i m (by omega)]; exact HR.out)
          by_cases hg6 : i < m
          · have e1 : decide ((i : Int) < (m : Int)) = true := by simpa using hg6
            have e2 : decide ((m : Int) < (t : Int)) = false := by simp; omega
            by_cases hg2 : a < i ∧ i < d
            · have e3 : decide ((a : Int) < (i : Int)) = true := by simpa using hg2.1
              have e4 : decide ((i : Int) < (d : Int)) = true := by simpa using hg2.2
              go_wp2_with fail
            · have HD2 := Aside0.mk (Srt.Pre.done HSL.out (by omega))
              obtain ⟨L2, rfl⟩ : ∃ L2, L2 = L1 := ⟨_, rfl⟩
              have H2 := H1
              have HL2 := HLN
              by_cases hg5 : a < i
              · have e3 : decide ((a : Int) < (i : Int)) = true := by simpa using hg5
                have e4 : decide ((i : Int) < (d : Int)) = false := by simp; omega
                by_cases hg3 : d < t ∧ t < b
                · have e5 : decide ((d : Int) < (t : Int)) = true := by simpa using hg3.1
                  have e6 : decide ((t : Int) < (b : Int)) = true := by simpa using hg3.2
                  go_wp2_with fail
                  refine (HIH.out d t b (by omega) L2 _ H2.out HL2.out (HSR.out L2 HD2.out) hg3.1 hg3.2 hb).mono ?_
                  rintro e w5 ⟨rfl, L3, h6, h7, h8⟩
                  have H3 := Aside0.mk h6
                  have HD3 := Aside0.mk h8
                  have HL3 := Aside0.mk h7
                  clear h6 h7 h8
                  go_wp2_with fail
                  exact bodyPost_end (v := .tuple #[]) (by simp [results, Tryz.results86, go_sem]) rfl ⟨rfl, L3, H3.out, HL3.out, HSA.out L2 L3 HD2.out HD3.out⟩
                · have HD3 := Aside0.mk (Srt.Pre.done (HSR.out L2 HD2.out) (by omega))
                  by_cases hg4 : d < t
                  · have e5 : decide ((d : Int) < (t : Int)) = true := by simpa using hg4
                    have e6 : decide ((t : Int) < (b : Int)) = false := by simp; omega
                    go_wp2_with fail
                  · have e5 : decide ((d : Int) < (t : Int)) = false := by simpa using hg4
                    go_wp2_with fail
              · have e3 : decide ((a : Int) < (i : Int)) = false := by simpa using hg5
                by_cases hg3 : d < t ∧ t < b
                · have e5 : decide ((d : Int) < (t : Int)) = true := by simpa using hg3.1
                  have e6 : decide ((t : Int) < (b : Int)) = true := by simpa using hg3.2
                  go_wp2_with fail
                · have HD3 := Aside0.mk (Srt.Pre.done (HSR.out L2 HD2.out) (by omega))
                  by_cases hg4 : d < t
                  · have e5 : decide ((d : Int) < (t : Int)) = true := by simpa using hg4
                    have e6 : decide ((t : Int) < (b : Int)) = false := by simp; omega
                    go_wp2_with fail
                  · have e5 : decide ((d : Int) < (t : Int)) = false := by simpa using hg4
                    go_wp2_with fail
          · have e1 : decide ((i : Int) < (m : Int)) = false := by simpa using hg6
            by_cases hg2 : a < i ∧ i < d
            · have e3 : decide ((a : Int) < (i : Int)) = true := by simpa using hg2.1
              have e4 : decide ((i : Int) < (d : Int)) = true := by simpa using hg2.2
              go_wp2_with fail
              refine (HIH.out a i d (by omega) L1 _ H1.out HLN.out HSL.out hg2.1 hg2.2 (by omega)).mono ?_
              rintro e w4 ⟨rfl, L2, h6, h7, h8⟩
              have H2 := Aside0.mk h6
              have HD2 := Aside0.mk h8
              have HL2 := Aside0.mk h7
              clear h6 h7 h8
              by_cases hg3 : d < t ∧ t < b
              · have e5 : decide ((d : Int) < (t : Int)) = true := by simpa using hg3.1
                have e6 : decide ((t : Int) < (b : Int)) = true := by simpa using hg3.2
                go_wp2_with fail
                refine (HIH.out d t b (by omega) L2 _ H2.out HL2.out (HSR.out L2 HD2.out) hg3.1 hg3.2 hb).mono ?_
                rintro e w5 ⟨rfl, L3, h6, h7, h8⟩
                have H3 := Aside0.mk h6
                have HD3 := Aside0.mk h8
                have HL3 := Aside0.mk h7
                clear h6 h7 h8
                go_wp2_with fail
                exact bodyPost_end (v := .tuple #[]) (by simp [results, Tryz.results86, go_sem]) rfl ⟨rfl, L3, H3.out, HL3.out, HSA.out L2 L3 HD2.out HD3.out⟩
              · have HD3 := Aside0.mk (Srt.Pre.done (HSR.out L2 HD2.out) (by omega))
                by_cases hg4 : d < t
                · have e5 : decide ((d : Int) < (t : Int)) = true := by simpa using hg4
                  have e6 : decide ((t : Int) < (b : Int)) = false := by simp; omega
                  go_wp2_with fail
                · have e5 : decide ((d : Int) < (t : Int)) = false := by simpa using hg4
                  go_wp2_with fail
                  exact bodyPost_end (v := .tuple #[]) (by simp [results, Tryz.results86, go_sem]) rfl ⟨rfl, L2, H2.out, HL2.out, HSA.out L2 L2 HD2.out HD3.out⟩
            · have HD2 := Aside0.mk (Srt.Pre.done HSL.out (by omega))
              obtain ⟨L2, rfl⟩ : ∃ L2, L2 = L1 := ⟨_, rfl⟩
              have H2 := H1
              have HL2 := HLN
              by_cases hg5 : a < i
              · have e3 : decide ((a : Int) < (i : Int)) = true := by simpa using hg5
                have e4 : decide ((i : Int) < (d : Int)) = false := by simp; omega
                by_cases hg3 : d < t ∧ t < b
                · have e5 : decide ((d : Int) < (t : Int)) = true := by simpa using hg3.1
                  have e6 : decide ((t : Int) < (b : Int)) = true := by simpa using hg3.2
                  go_wp2_with fail
                · have HD3 := Aside0.mk (Srt.Pre.done (HSR.out L2 HD2.out) (by omega))
                  by_cases hg4 : d < t
                  · have e5 : decide ((d : Int) < (t : Int)) = true := by simpa using hg4
                    have e6 : decide ((t : Int) < (b : Int)) = false := by simp; omega
                    go_wp2_with fail
                  · have e5 : decide ((d : Int) < (t : Int)) = false := by simpa using hg4
                    go_wp2_with fail
              · have e3 : decide ((a : Int) < (i : Int)) = false := by simpa using hg5
                by_cases hg3 : d < t ∧ t < b
                · have e5 : decide ((d : Int) < (t : Int)) = true := by simpa using hg3.1
                  have e6 : decide ((t : Int) < (b : Int)) = true := by simpa using hg3.2
                  go_wp2_with fail
                  refine (HIH.out d t b (by omega) L2 _ H2.out HL2.out (HSR.out L2 HD2.out) hg3.1 hg3.2 hb).mono ?_
                  rintro e w5 ⟨rfl, L3, h6, h7, h8⟩
                  have H3 := Aside0.mk h6
                  have HD3 := Aside0.mk h8
                  have HL3 := Aside0.mk h7
                  clear h6 h7 h8
                  go_wp2_with fail
                  exact bodyPost_end (v := .tuple #[]) (by simp [results, Tryz.results86, go_sem]) rfl ⟨rfl, L3, H3.out, HL3.out, HSA.out L2 L3 HD2.out HD3.out⟩
                · have HD3 := Aside0.mk (Srt.Pre.done (HSR.out L2 HD2.out) (by omega))
                  by_cases hg4 : d < t
                  · have e5 : decide ((d : Int) < (t : Int)) = true := by simpa using hg4
                    have e6 : decide ((t : Int) < (b : Int)) = false := by simp; omega
                    go_wp2_with fail
                  · have e5 : decide ((d : Int) < (t : Int)) = false := by simpa using hg4
                    go_wp2_with fail
                    exact bodyPost_end (v := .tuple #[]) (by simp [results, Tryz.results86, go_sem]) rfl ⟨rfl, L2, H2.out, HL2.out, HSA.out L2 L2 HD2.out HD3.out⟩
  · have HLO := Aside0.mk (show Srt.lo0 a m b = a by have := HDD.out; unfold Srt.lo0; rw [if_neg (by omega)])
    have HHI := Aside0.mk (show Srt.hi0 a m b = m by have := HDD.out; unfold Srt.hi0; rw [if_neg (by omega)])
    have hlo : True := by trivial
    go_enter Tryz.func86, Tryz.ntmps86
    go_wp2
    go_loopg [20, 21] (Srt.hi0 a m b - Srt.lo0 a m b) (fun gk v20 v21 wr => ∃ (i j : Nat), gk = j - i ∧ v20 = .int .i64 i ∧ v21 = .int .i64 j ∧ Aside0 (Srt.Half (Srt.test (ltC cm) L a m b) (Srt.lo0 a m b) (Srt.hi0 a m b) i j) ∧ Aside0 (RowIs B ok w g n cap L wr))
    case atStart =>
      refine ⟨Srt.lo0 a m b, Srt.hi0 a m b, rfl, ?_, ?_, HHF, HR⟩
      · rw [HLO.out] <;> (congr 1; omega)
      · rw [HHI.out]
    case round =>
      clear HR
      obtain ⟨i, j, hg, rfl, rfl, HI, HR⟩ := hrel
      have hi := HI.out.1
      have hij := HI.out.2.1
      have hj := HI.out.2.2.1
      have h3 := HN.out
      have h4 := HRG.out
      have h5 := HDD.out
      rw [← h5] at h4
      have hiB : a ≤ i ∧ d + m ≤ i + b ∧ j ≤ m ∧ j ≤ d := by omega
      clear hi hj h4 h5
      by_cases hlt : i < j
      · have hmid := mid_eq (i := i) (j := j) (by omega) (by omega)
        obtain ⟨h, hh⟩ : ∃ h, h = (i + j) / 2 := ⟨_, rfl⟩
        have hh1 : i ≤ h ∧ h < j := by omega
        rw [← hh] at hmid
        clear hh
        obtain ⟨q, hq⟩ : ∃ q : Nat, q = d + m - 1 - h := ⟨_, rfl⟩
        have hq1 : (d : Int) + (m : Int) - 1 - (h : Int) = (q : Int) := by omega
        have hq2 : q < n := by omega
        have HQ := Aside0.mk hq
        clear hq
        obtain ⟨y, hy, p0, p1, p2, p3, p4, p5, p6, p7, q0, q1, q2, q3, q4, q5, q6, q7⟩ := row_at HR.out.1 (show h < n by omega)
        obtain ⟨x, hx, r0, r1, r2, r3, r4, r5, r6, r7, s0, s1, s2, s3, s4, s5, s6, s7⟩ := row_at HR.out.1 (show q < n by omega)
        have i0 : (0 : Int) ≤ (h : Int) := by omega
        have i1 : (h : Int) < (n : Int) := by omega
        have i2 : (0 : Int) ≤ (q : Int) := by omega
        have i3 : (q : Int) < (n : Int) := by omega
        have i6 : IntKind.i64.wrap (q : Int) = (q : Int) := by simp only [IntKind.wrap, IntKind.bits, IntKind.signed, Bool.true_and, decide_eq_true_eq, ge_iff_le]; split <;> omega
        have htest : Srt.test (ltC cm) L a m b h = !(ltC cm x y) := by
          unfold Srt.test
          rw [← HDD.out, ← HQ.out, Srt.ltAt_of hx.out hy.out]
        have HT := Aside0.mk htest
        clear htest
        go_wp2_with fail
        go_still_tail 11, (by kernel_rfl)
        go_wp2_with fail
        refine (HC.out _ (gr_drew HR.out.2) x y).mono ?_; rintro _ w2 ⟨rfl, hb2⟩
        have HR2 := Aside0.mk (RowIs.below (RowIs.drew HR.out) hb2)
        clear hb2 p0 p1 p2 p3 p4 p5 p6 p7 q0 q1 q2 q3 q4 q5 q6 q7 r0 r1 r2 r3 r4 r5 r6 r7 s0 s1 s2 s3 s4 s5 s6 s7
        by_cases hc : cm x y < 0
        · have e4 : decide (cm x y < 0) = true := by simpa using hc
          have HH := Aside0.mk (HI.out.no HF.out hh1.1 hh1.2 (HT.out.trans (by rw [show ltC cm x y = _ from e4]; rfl)))
          go_wp2_with fail
          go_roundg (h - i)
          case measure => omega
          exact ⟨i, h, rfl, rfl, rfl, HH, HR2⟩
        · have e4 : decide (cm x y < 0) = false := by simpa using hc
          have HH := Aside0.mk (HI.out.yes HF.out hh1.1 hh1.2 (HT.out.trans (by rw [show ltC cm x y = _ from e4]; rfl)))
          go_wp2_with fail
          go_roundg (j - (h + 1))
          case measure => omega
          exact ⟨h + 1, j, rfl, by go_num, rfl, HH, HR2⟩
      · obtain rfl : i = j := by omega
        have hS := HST.out i HI.out
        obtain ⟨t, ht⟩ : ∃ t : Nat, t = d + m - i := ⟨_, rfl⟩
        have ht1 : (d : Int) + (m : Int) - (i : Int) = (t : Int) := by omega
        have hle := hS.le1
        rw [← HDD.out, ← ht] at hle
        have hS1 : ∃ L1, L1 = Srt.rotd L i m t := ⟨_, rfl⟩
        obtain ⟨L1, hL1⟩ := hS1
        have hL1n : L1.length = n := by rw [hL1, Srt.rotd_len L hle.2.1 hle.2.2.1 (by rw [HN.out]; omega)]; exact HN.out
        have HSL := Aside0.mk (show Srt.Pre (ltC cm) L1 a i d by have := hS.left; rw [← HDD.out, ← ht, ← hL1] at this; exact this)
        have HSR := Aside0.mk (show ∀ L2, Srt.Done (ltC cm) a d L1 L2 → Srt.Pre (ltC cm) L2 d t b by have := hS.right; rw [← HDD.out, ← ht, ← hL1] at this; exact this)
        have HSA := Aside0.mk (show ∀ L2 L3, Srt.Done (ltC cm) a d L1 L2 → Srt.Done (ltC cm) d b L2 L3 → Srt.Done (ltC cm) a b L L3 by have := hS.all; rw [← HDD.out, ← ht, ← hL1] at this; exact this)
        have HL1 := Aside0.mk hL1
        have HLN := Aside0.mk hL1n
        clear hS ht hL1 hL1n hij hg
        by_cases hg1 : i < m ∧ m < t
        · have e1 : decide ((i : Int) < (m : Int)) = true := by simpa using hg1.1
          have e2 : decide ((m : Int) < (t : Int)) = true := by simpa using hg1.2
          go_wp2_with fail
          refine (rotate_c g n cap L i m t _ B ok w _ HR.out HN.out hg1.1 hg1.2 (by omega) hl).mono ?_
          rintro e w3 ⟨rfl, h6⟩
          have H1 := Aside0.mk (show RowIs B ok w g n cap L1 w3 by rw [HL1.out]; exact h6)
          clear h6
          by_cases hg2 : a < i ∧ i < d
          · have e3 : decide ((a : Int) < (i : Int)) = true := by simpa using hg2.1
            have e4 : decide ((i : Int) < (d : Int)) = true := by simpa using hg2.2
            go_wp2_with fail
            refine (HIH.out a i d (by omega) L1 _ H1.out HLN.out HSL.out hg2.1 hg2.2 (by omega)).mono ?_
            rintro e w4 ⟨rfl, L2, h6, h7, h8⟩
            have H2 := Aside0.mk h6
            have HD2 := Aside0.mk h8
            have HL2 := Aside0.mk h7
            clear h6 h7 h8
            by_cases hg3 : d < t ∧ t < b
            · have e5 : decide ((d : Int) < (t : Int)) = true := by simpa using hg3.1
              have e6 : decide ((t : Int) < (b : Int)) = true := by simpa using hg3.2
              go_wp2_with fail
              refine (HIH.out d t b (by omega) L2 _ H2.out HL2.out (HSR.out L2 HD2.out) hg3.1 hg3.2 hb).mono ?_
              rintro e w5 ⟨rfl, L3, h6, h7, h8⟩
              have H3 := Aside0.mk h6
              have HD3 := Aside0.mk h8
              have HL3 := Aside0.mk h7
              clear h6 h7 h8
              go_wp2_with fail
              exact bodyPost_end (v := .tuple #[]) (by simp [results, Tryz.results86, go_sem]) rfl ⟨rfl, L3, H3.out, HL3.out, HSA.out L2 L3 HD2.out HD3.out⟩
            · have HD3 := Aside0.mk (Srt.Pre.done (HSR.out L2 HD2.out) (by omega))
              by_cases hg4 : d < t
              · have e5 : decide ((d : Int) < (t : Int)) = true := by simpa using hg4
                have e6 : decide ((t : Int) < (b : Int)) = false := by simp; omega
                go_wp2_with fail
              · have e5 : decide ((d : Int) < (t : Int)) = false := by simpa using hg4
                go_wp2_with fail
                exact bodyPost_end (v := .tuple #[]) (by simp [results, Tryz.results86, go_sem]) rfl ⟨rfl, L2, H2.out, HL2.out, HSA.out L2 L2 HD2.out HD3.out⟩
          · have HD2 := Aside0.mk (Srt.Pre.done HSL.out (by omega))
            obtain ⟨L2, rfl⟩ : ∃ L2, L2 = L1 := ⟨_, rfl⟩
            have H2 := H1
            have HL2 := HLN
            by_cases hg5 : a < i
            · have e3 : decide ((a : Int) < (i : Int)) = true := by simpa using hg5
              have e4 : decide ((i : Int) < (d : Int)) = false := by simp; omega
              by_cases hg3 : d < t ∧ t < b
              · have e5 : decide ((d : Int) < (t : Int)) = true := by simpa using hg3.1
                have e6 : decide ((t : Int) < (b : Int)) = true := by simpa using hg3.2
                go_wp2_with fail
              · have HD3 := Aside0.mk (Srt.Pre.done (HSR.out L2 HD2.out) (by omega))
                by_cases hg4 : d < t
                · have e5 : decide ((d : Int) < (t : Int)) = true := by simpa using hg4
                  have e6 : decide ((t : Int) < (b : Int)) = false := by simp; omega
                  go_wp2_with fail
                · have e5 : decide ((d : Int) < (t : Int)) = false := by simpa using hg4
                  go_wp2_with fail
            · have e3 : decide ((a : Int) < (i : Int)) = false := by simpa using hg5
              by_cases hg3 : d < t ∧ t < b
              · have e5 : decide ((d : Int) < (t : Int)) = true := by simpa using hg3.1
                have e6 : decide ((t : Int) < (b : Int)) = true := by simpa using hg3.2
                go_wp2_with fail
                refine (HIH.out d t b (by omega) L2 _ H2.out HL2.out (HSR.out L2 HD2.out) hg3.1 hg3.2 hb).mono ?_
                rintro e w5 ⟨rfl, L3, h6, h7, h8⟩
                have H3 := Aside0.mk h6
                have HD3 := Aside0.mk h8
                have HL3 := Aside0.mk h7
                clear h6 h7 h8
                go_wp2_with fail
                exact bodyPost_end (v := .tuple #[]) (by simp [results, Tryz.results86, go_sem]) rfl ⟨rfl, L3, H3.out, HL3.out, HSA.out L2 L3 HD2.out HD3.out⟩
              · have HD3 := Aside0.mk (Srt.Pre.done (HSR.out L2 HD2.out) (by omega))
                by_cases hg4 : d < t
                · have e5 : decide ((d : Int) < (t : Int)) = true := by simpa using hg4
                  have e6 : decide ((t : Int) < (b : Int)) = false := by simp; omega
                  go_wp2_with fail
                  exact bodyPost_end (v := .tuple #[]) (by simp [results, Tryz.results86, go_sem]) rfl ⟨rfl, L2, H2.out, HL2.out, HSA.out L2 L2 HD2.out HD3.out⟩
                · have e5 : decide ((d : Int) < (t : Int)) = false := by simpa using hg4
                  go_wp2_with fail
                  exact bodyPost_end (v := .tuple #[]) (by simp [results, Tryz.results86, go_sem]) rfl ⟨rfl, L2, H2.out, HL2.out, HSA.out L2 L2 HD2.out HD3.out⟩
        · have H1 := Aside0.mk (show RowIs B ok w g n cap L1 wr by
            rw [HL1.out]
            rcases (show i = m ∨ m = t by omega) with e | e
            · rw [← e, rotd_l L i t (by omega)]; exact HR.out
            · rw [← e, rotd_r L i m (by omega)]; exact HR.out)
          by_cases hg6 : i < m
          · have e1 : decide ((i : Int) < (m : Int)) = true := by simpa using hg6
            have e2 : decide ((m : Int) < (t : Int)) = false := by simp; omega
            by_cases hg2 : a < i ∧ i < d
            · have e3 : decide ((a : Int) < (i : Int)) = true := by simpa using hg2.1
              have e4 : decide ((i : Int) < (d : Int)) = true := by simpa using hg2.2
              go_wp2_with fail
            · have HD2 := Aside0.mk (Srt.Pre.done HSL.out (by omega))
              obtain ⟨L2, rfl⟩ : ∃ L2, L2 = L1 := ⟨_, rfl⟩
              have H2 := H1
              have HL2 := HLN
              by_cases hg5 : a < i
              · have e3 : decide ((a : Int) < (i : Int)) = true := by simpa using hg5
                have e4 : decide ((i : Int) < (d : Int)) = false := by simp; omega
                by_cases hg3 : d < t ∧ t < b
                · have e5 : decide ((d : Int) < (t : Int)) = true := by simpa using hg3.1
                  have e6 : decide ((t : Int) < (b : Int)) = true := by simpa using hg3.2
                  go_wp2_with fail
                · have HD3 := Aside0.mk (Srt.Pre.done (HSR.out L2 HD2.out) (by omega))
                  by_cases hg4 : d < t
                  · have e5 : decide ((d : Int) < (t : Int)) = true := by simpa using hg4
                    have e6 : decide ((t : Int) < (b : Int)) = false := by simp; omega
                    go_wp2_with fail
                  · have e5 : decide ((d : Int) < (t : Int)) = false := by simpa using hg4
                    go_wp2_with fail
              · have e3 : decide ((a : Int) < (i : Int)) = false := by simpa using hg5
                by_cases hg3 : d < t ∧ t < b
                · have e5 : decide ((d : Int) < (t : Int)) = true := by simpa using hg3.1
                  have e6 : decide ((t : Int) < (b : Int)) = true := by simpa using hg3.2
                  go_wp2_with fail
                · have HD3 := Aside0.mk (Srt.Pre.done (HSR.out L2 HD2.out) (by omega))
                  by_cases hg4 : d < t
                  · have e5 : decide ((d : Int) < (t : Int)) = true := by simpa using hg4
                    have e6 : decide ((t : Int) < (b : Int)) = false := by simp; omega
                    go_wp2_with fail
                  · have e5 : decide ((d : Int) < (t : Int)) = false := by simpa using hg4
                    go_wp2_with fail
          · have e1 : decide ((i : Int) < (m : Int)) = false := by simpa using hg6
            by_cases hg2 : a < i ∧ i < d
            · have e3 : decide ((a : Int) < (i : Int)) = true := by simpa using hg2.1
              have e4 : decide ((i : Int) < (d : Int)) = true := by simpa using hg2.2
              go_wp2_with fail
              refine (HIH.out a i d (by omega) L1 _ H1.out HLN.out HSL.out hg2.1 hg2.2 (by omega)).mono ?_
              rintro e w4 ⟨rfl, L2, h6, h7, h8⟩
              have H2 := Aside0.mk h6
              have HD2 := Aside0.mk h8
              have HL2 := Aside0.mk h7
              clear h6 h7 h8
              by_cases hg3 : d < t ∧ t < b
              · have e5 : decide ((d : Int) < (t : Int)) = true := by simpa using hg3.1
                have e6 : decide ((t : Int) < (b : Int)) = true := by simpa using hg3.2
                go_wp2_with fail
                refine (HIH.out d t b (by omega) L2 _ H2.out HL2.out (HSR.out L2 HD2.out) hg3.1 hg3.2 hb).mono ?_
                rintro e w5 ⟨rfl, L3, h6, h7, h8⟩
                have H3 := Aside0.mk h6
                have HD3 := Aside0.mk h8
                have HL3 := Aside0.mk h7
                clear h6 h7 h8
                go_wp2_with fail
                exact bodyPost_end (v := .tuple #[]) (by simp [results, Tryz.results86, go_sem]) rfl ⟨rfl, L3, H3.out, HL3.out, HSA.out L2 L3 HD2.out HD3.out⟩
              · have HD3 := Aside0.mk (Srt.Pre.done (HSR.out L2 HD2.out) (by omega))
                by_cases hg4 : d < t
                · have e5 : decide ((d : Int) < (t : Int)) = true := by simpa using hg4
                  have e6 : decide ((t : Int) < (b : Int)) = false := by simp; omega
                  go_wp2_with fail
                · have e5 : decide ((d : Int) < (t : Int)) = false := by simpa using hg4
                  go_wp2_with fail
                  exact bodyPost_end (v := .tuple #[]) (by simp [results, Tryz.results86, go_sem]) rfl ⟨rfl, L2, H2.out, HL2.out, HSA.out L2 L2 HD2.out HD3.out⟩
            · have HD2 := Aside0.mk (Srt.Pre.done HSL.out (by omega))
              obtain ⟨L2, rfl⟩ : ∃ L2, L2 = L1 := ⟨_, rfl⟩
              have H2 := H1
              have HL2 := HLN
              by_cases hg5 : a < i
              · have e3 : decide ((a : Int) < (i : Int)) = true := by simpa using hg5
                have e4 : decide ((i : Int) < (d : Int)) = false := by simp; omega
                by_cases hg3 : d < t ∧ t < b
                · have e5 : decide ((d : Int) < (t : Int)) = true := by simpa using hg3.1
                  have e6 : decide ((t : Int) < (b : Int)) = true := by simpa using hg3.2
                  go_wp2_with fail
                · have HD3 := Aside0.mk (Srt.Pre.done (HSR.out L2 HD2.out) (by omega))
                  by_cases hg4 : d < t
                  · have e5 : decide ((d : Int) < (t : Int)) = true := by simpa using hg4
                    have e6 : decide ((t : Int) < (b : Int)) = false := by simp; omega
                    go_wp2_with fail
                  · have e5 : decide ((d : Int) < (t : Int)) = false := by simpa using hg4
                    go_wp2_with fail
                    exact bodyPost_end (v := .tuple #[]) (by simp [results, Tryz.results86, go_sem]) rfl ⟨rfl, L2, H2.out, HL2.out, HSA.out L2 L2 HD2.out HD3.out⟩
              · have e3 : decide ((a : Int) < (i : Int)) = false := by simpa using hg5
                by_cases hg3 : d < t ∧ t < b
                · have e5 : decide ((d : Int) < (t : Int)) = true := by simpa using hg3.1
                  have e6 : decide ((t : Int) < (b : Int)) = true := by simpa using hg3.2
                  go_wp2_with fail
                  refine (HIH.out d t b (by omega) L2 _ H2.out HL2.out (HSR.out L2 HD2.out) hg3.1 hg3.2 hb).mono ?_
                  rintro e w5 ⟨rfl, L3, h6, h7, h8⟩
                  have H3 := Aside0.mk h6
                  have HD3 := Aside0.mk h8
                  have HL3 := Aside0.mk h7
                  clear h6 h7 h8
                  go_wp2_with fail
                  exact bodyPost_end (v := .tuple #[]) (by simp [results, Tryz.results86, go_sem]) rfl ⟨rfl, L3, H3.out, HL3.out, HSA.out L2 L3 HD2.out HD3.out⟩
                · have HD3 := Aside0.mk (Srt.Pre.done (HSR.out L2 HD2.out) (by omega))
                  by_cases hg4 : d < t
                  · have e5 : decide ((d : Int) < (t : Int)) = true := by simpa using hg4
                    have e6 : decide ((t : Int) < (b : Int)) = false := by simp; omega
                    go_wp2_with fail
                  · have e5 : decide ((d : Int) < (t : Int)) = false := by simpa using hg4
                    go_wp2_with fail
                    exact bodyPost_end (v := .tuple #[]) (by simp [results, Tryz.results86, go_sem]) rfl ⟨rfl, L2, H2.out, HL2.out, HSA.out L2 L2 HD2.out HD3.out⟩
end Go.Proofs.YtkoaangakmpggaaGreatDoor
end
section
/- slices.Clone at books. -/
namespace Go.Proofs.YtkoaangakmpggaaGreatDoor
open Go.RowKit Go.Proofs.YtkoaangakmpggaaGreatDoorW.PrintWords Go.Proofs.YtkoaangakmpggaaGreatDoorW.PrintMore
set_option linter.unusedVariables false
set_option linter.unusedSimpArgs false
set_option maxRecDepth 100000

section
variable {ops : Array Oper} {rest : List Oper} {o : Oper} {a : Act} {Q : Exit → Act → World → Prop}
/-- append([]impl.Book{}, bs...). -/
theorem bk_append_all {w W : World} (hgd : o.guard = none) (s x : Operand) (ho : o.op = .call { callee := .builtin .append, args := #[s, x], argTypes := #[24, 24] }) (A : Option Addr) (m c : Nat) (ys : List Bk)
    (hs : a.eval s = .slice (some ⟨W.heap.size, 0, none⟩) 0 0) (hx : a.eval x = .slice A m c) (HL : kBk.C W A m ys) (HB : Below w.heap.size w W) (hl : m ≤ 2097152)
    (h : ∀ v1 w1, kBk.R 44 w1 w.heap.size (fun _ => True) v1 ys → Below w.heap.size w w1 → wpList Tryz.prog ops Q rest (a.put o.dst v1) w1) :
    wpList Tryz.prog ops Q (o :: rest) a (W.alloc (.cells #[] 44)) :=
  Kd.R_append_rows kBk (Rr := kBk.K (W.alloc (.cells #[] 44))) (w0 := w) w.heap.size hgd s x 24 44 (.agg #[.int .i16 0, .int .u8 0, .int .u8 0, .int .u8 0, .int .i16 0, .int .i16 0, .int .i16 0, .int .i16 0]) 14 ho Tryz.underlying24 info_bk rfl (by decide) (by decide) _ [] ys A m c (fun _ => True) (fun _ => False) hs hx (R_zero _ _ _ _ _ HB.size trivial) (Kd.C_below HL (balloc (Below.refl _ _) _)) (fun x cs h => h) (fun _ h => h.elim) (fun _ _ => trivial) (HB.alloc HB.size _) (by simp only [World.size_alloc]; have := HB.size; omega) (by simp only [List.length_nil]; omega)
    (fun v1 w1 h1 h2 _ _ => h v1 w1 h1 h2)
end
set_option maxHeartbeats 1000000 in
theorem clone_c (A : Option Addr) (c : Nat) (L : List Bk) (w : World) (hL : kBk.C w A L.length L) (hn : L.length ≤ 2097152) :
    Calls Tryz.prog 32 #[.slice A L.length c] w (RetQ w (NewBk w L)) := by
  have hm := Kd.C_max hL
  have HL := Aside0.mk hL
  clear hL
  have qT : ∀ (w : World) (a : Option Addr) (n c : Nat), (binOp .eql 24 (.slice a n c) (.slice none 0 0)).run Tryz.prog w = .ok (.bool a.isNone) w := fun w a n c => Lib.run_eql_slice_nil w _ _ a n c 0 0 Tryz.underlying24
  cases A with
  | none =>
    have h0 : L = [] := by
      have h1 := HL.out
      rcases h1 with ⟨h2, h3, h4⟩
      cases L with
      | nil => rfl
      | cons x L => obtain ⟨ad, h5, _⟩ := h4 (by simp); cases h5
    subst h0
    have e0 : (none : Option Addr).isNone = true := rfl
    go_enter Tryz.func32, Tryz.ntmps32
    go_wp2_with fail
    go_ret
    exact ⟨_, rfl, Below.refl _ _, Kd.R_nil _ _ _ _ _⟩
  | some p =>
    have e0 : (some p).isNone = false := rfl
    go_enter Tryz.func32, Tryz.ntmps32
    go_wp2_with (refine bk_append_all (w := w) rfl (.tmp 5) (.tmp 6) rfl (some p) _ c L rfl rfl HL.out (Below.refl _ _) hn ?_; intro v1 w1 hR hB; have HR := Aside0.mk hR; have HB := Aside0.mk hB; clear hR hB)
    go_ret
    exact ⟨_, rfl, HB.out, HR.out⟩
end Go.Proofs.YtkoaangakmpggaaGreatDoor
end
section
/- The library's stable sort of a row of books, slices.SortStableFunc at books. -/
namespace Go.Proofs.YtkoaangakmpggaaGreatDoor
open Go.RowKit Go.Proofs.YtkoaangakmpggaaGreatDoorW.PrintWords Go.Proofs.YtkoaangakmpggaaGreatDoorW.PrintMore
set_option linter.unusedVariables false
set_option linter.unusedSimpArgs false
set_option maxRecDepth 100000

theorem symMerge_c (g n cap : Nat) (f : FuncId) (cf : Array Value) (cm : Bk → Bk → Int) (hw : Srt.Wk (ltC cm)) (B : Nat) (ok : Nat → Prop) (w : World) (hl : n ≤ 1000000000) (hC : CmpOk f cf cm g w) : ∀ (k a m b : Nat), b - a ≤ k → MergeOk g n cap f cf cm B ok w a m b := by
  intro k
  induction k with
  | zero => intro a m b h L W hR hn hP h1 h2 hb; omega
  | succ k ih =>
    intro a m b h L W hR hn hP h1 h2 hb
    by_cases hm1 : m = a + 1
    · exact merge1_c g n cap L a m b f cf cm hw B ok w W hR hn hm1 hP h2 hb hl hC
    · by_cases hm2 : b = m + 1
      · exact merge2_c g n cap L a m b f cf cm hw B ok w W hR hn hm2 hm1 hP h1 hb hl hC
      · exact merge3_c g n cap L a m b f cf cm hw B ok w W hR hn hm1 hm2 hP h1 h2 hb hl hC (fun a' m' b' h' => ih a' m' b' (by omega))
theorem insertion_i (g n cap : Nat) (L : List Bk) (a b : Nat) (x y : Int) (hx : x = a) (hy : y = b) (f : FuncId) (cf : Array Value) (cm : Bk → Bk → Int) (hw : Srt.Wk (ltC cm)) (B : Nat) (ok : Nat → Prop) (w W : World) (hR : RowIs B ok w g n cap L W) (hn : L.length = n) (hab : a ≤ b) (hb : b ≤ n) (hl : n ≤ 1000000000) (hC : CmpOk f cf cm g w) :
    Calls Tryz.prog 85 #[.slice (some ⟨g, 0, none⟩) n cap, .int .i64 x, .int .i64 y, .func (.func f) #[] cf] W (Merged B ok w g n cap (ltC cm) a b L) := by
  subst hx hy
  refine (insertion_c g n cap L a b f cf cm B ok w W hR hn hab hb hl hC).mono ?_
  rintro e w1 ⟨rfl, h1⟩
  have hd := Srt.insS_done hw L hab (by omega)
  exact ⟨rfl, _, h1, by rw [hd.len hw]; exact hn, hd⟩
theorem symMerge_i (g n cap : Nat) (L : List Bk) (a m b : Nat) (x y z : Int) (hx : x = a) (hy : y = m) (hz : z = b) (f : FuncId) (cf : Array Value) (cm : Bk → Bk → Int) (hw : Srt.Wk (ltC cm)) (B : Nat) (ok : Nat → Prop) (w W : World) (hR : RowIs B ok w g n cap L W) (hn : L.length = n) (hP : Srt.Pre (ltC cm) L a m b) (h1 : a < m) (h2 : m < b) (hb : b ≤ n) (hl : n ≤ 1000000000) (hC : CmpOk f cf cm g w) :
    Calls Tryz.prog 86 #[.slice (some ⟨g, 0, none⟩) n cap, .int .i64 x, .int .i64 y, .int .i64 z, .func (.func f) #[] cf] W (Merged B ok w g n cap (ltC cm) a b L) := by
  subst hx hy hz
  exact symMerge_c g n cap f cf cm hw B ok w hl hC _ a m b (Nat.le_refl _) L W hR hn hP h1 h2 hb
structure SIn (lt : Bk → Bk → Bool) (L C : List Bk) (n t av : Nat) : Prop where
  ah : Srt.Ahead lt C 20 t
  st : Srt.Stab lt L C
  len : C.length = n
  eq : av = t * 20
  le : av ≤ n
structure SMid (lt : Bk → Bk → Bool) (L C : List Bk) (n k : Nat) : Prop where
  bl : Srt.Blocks lt C k
  st : Srt.Stab lt L C
  len : C.length = n
  k0 : 0 < k
structure SUp (lt : Bk → Bk → Bool) (L C : List Bk) (n k t av : Nat) : Prop where
  ah : Srt.Ahead lt C (2 * k) t
  be : Srt.Behind lt C k (2 * t)
  st : Srt.Stab lt L C
  len : C.length = n
  eq : av = t * (2 * k)
  le : av ≤ n
set_option maxHeartbeats 16000000 in
theorem stable_c (g n cap : Nat) (L : List Bk) (f : FuncId) (cf : Array Value) (cm : Bk → Bk → Int) (hw : Srt.Wk (ltC cm)) (B : Nat) (ok : Nat → Prop) (w W : World) (hR : RowIs B ok w g n cap L W) (hn : L.length = n) (hl : n ≤ 1000000000) (hC : CmpOk f cf cm g w) :
    Calls Tryz.prog 60 #[.slice (some ⟨g, 0, none⟩) n cap, .int .i64 n, .func (.func f) #[] cf] W (Writes B ok w g n cap (Srt.sortL (ltC cm) L)) := by
  have HR := Aside0.mk hR
  have HC := Aside0.mk hC
  have HN := Aside0.mk hn
  clear hR hC hn
  go_enter Tryz.func60, Tryz.ntmps60
  go_wp2
  go_loopg [7, 8] n (fun gk v7 v8 wr => ∃ (t av : Nat) (C : List Bk), av + gk = n ∧ v7 = .int .i64 av ∧ v8 = .int .i64 ((av : Int) + 20) ∧ Aside0 (SIn (ltC cm) L C n t av) ∧ Aside0 (RowIs B ok w g n cap C wr))
  case atStart => exact ⟨0, 0, L, by omega, rfl, rfl, ⟨⟨Srt.Ahead.zero _ _ _, Srt.Stab.refl _ _, HN.out, by omega, by omega⟩⟩, HR⟩
  case round =>
    clear HR
    obtain ⟨t, av, C, hg, rfl, rfl, HS, HR⟩ := hrel
    by_cases hlt : av + 20 ≤ n
    · go_wp2_with fail
      refine (insertion_i g n cap C av (av + 20) _ _ rfl (by omega) f cf cm hw B ok w wr HR.out HS.out.len (by omega) hlt hl HC.out).mono ?_
      rintro e w1 ⟨rfl, C', h1, h2, h3⟩
      have H1 := Aside0.mk h1
      have HS' := Aside0.mk (show SIn (ltC cm) L C' n (t + 1) (av + 20) from ⟨HS.out.ah.next hw (by rw [← HS.out.eq]; exact h3), HS.out.st.trans h3.stab, h2, by have := HS.out.eq; omega, hlt⟩)
      clear h1 h2 h3
      go_wp2
      go_roundg (gk - 20)
      case measure => omega
      exact ⟨t + 1, av + 20, C', by omega, by go_num, by go_num, HS', H1⟩
    · have hle := HS.out.le
      go_wp2_with fail
      refine (insertion_i g n cap C av n _ _ rfl rfl f cf cm hw B ok w wr HR.out HS.out.len hle (Nat.le_refl _) hl HC.out).mono ?_
      rintro e w1 ⟨rfl, C', h1, h2, h3⟩
      have H1 := Aside0.mk h1
      have HM := Aside0.mk (show SMid (ltC cm) L C' n 20 from ⟨HS.out.ah.last hw (by rw [← HS.out.eq, HS.out.len]; omega) (by rw [← HS.out.eq, HS.out.len]; exact h3), HS.out.st.trans h3.stab, h2, by omega⟩)
      clear h1 h2 h3 hg hlt hle HS HR
      go_wp2
      obtain ⟨gO, rfl⟩ : ∃ g : Nat, g = gk := ⟨_, rfl⟩
      go_loopg [6] (n - 20) (fun gk v6 wr => ∃ (k : Nat) (D : List Bk), gk = n - k ∧ v6 = .int .i64 k ∧ Aside0 (SMid (ltC cm) L D n k) ∧ Aside0 (RowIs B ok w g n cap D wr))
      case atStart => exact ⟨20, C', rfl, rfl, HM, H1⟩
      case round =>
        clear HM H1
        obtain ⟨k, D, hg, rfl, HM, HR⟩ := hrel
        have hk0 := HM.out.k0
        by_cases hlt : k < n
        · obtain ⟨wo, rfl⟩ : ∃ wo : World, wo = wr := ⟨_, rfl⟩
          obtain ⟨g1, rfl⟩ : ∃ g : Nat, g = gk := ⟨_, rfl⟩
          have HS0 := Aside0.mk (show SUp (ltC cm) L D n k 0 0 from ⟨Srt.Ahead.zero _ _ _, HM.out.bl.behind, HM.out.st, HM.out.len, by omega, by omega⟩)
          go_wp2
          go_loopg [7, 8] n (fun gk v7 v8 wr => ∃ (t av : Nat) (E : List Bk), av + gk = n ∧ v7 = .int .i64 av ∧ v8 = .int .i64 ((av : Int) + 2 * (k : Int)) ∧ Aside0 (SUp (ltC cm) L E n k t av) ∧ Aside0 (RowIs B ok w g n cap E wr))
          case atStart => exact ⟨0, 0, D, by omega, rfl, by simp, HS0, HR⟩
          case round =>
            clear HR HS0
            obtain ⟨t, av, E, hg2, rfl, rfl, HS, HR⟩ := hrel
            have hle := HS.out.le
            by_cases hle2 : av + 2 * k ≤ n
            · have HP := Aside0.mk (HS.out.be.pre (by rw [← HS.out.eq, HS.out.len]; exact hle2))
              have i0 : (av : Int) + 2 * (k : Int) ≤ (n : Int) := by omega
              go_wp2_with fail
              refine (symMerge_i g n cap E av (av + k) (av + 2 * k) _ _ _ rfl (by omega) (by omega) f cf cm hw B ok w wr HR.out HS.out.len (by have := HP.out; rw [← HS.out.eq] at this; exact this) (by omega) (by omega) hle2 hl HC.out).mono ?_
              rintro e w1 ⟨rfl, E', h1, h2, h3⟩
              have H1 := Aside0.mk h1
              have HS' := Aside0.mk (show SUp (ltC cm) L E' n k (t + 1) (av + 2 * k) from ⟨HS.out.ah.next hw (by rw [← HS.out.eq]; exact h3), HS.out.be.next hw (by rw [← HS.out.eq]; exact h3), HS.out.st.trans h3.stab, h2, by rw [HS.out.eq, Nat.add_mul, Nat.one_mul], hle2⟩)
              clear h1 h2 h3
              go_wp2
              go_roundg (gk - 2 * k)
              case measure => omega
              exact ⟨t + 1, av + 2 * k, E', by omega, by go_num, by go_num, HS', H1⟩
            · have i0 : ¬ (av : Int) + 2 * (k : Int) ≤ (n : Int) := by omega
              by_cases hm : av + k < n
              · have HP := Aside0.mk (HS.out.be.pre_last (by rw [← HS.out.eq, HS.out.len]; omega) (by rw [← HS.out.eq, HS.out.len]; omega))
                go_wp2_with fail
                refine (symMerge_i g n cap E av (av + k) n _ _ _ rfl (by omega) rfl f cf cm hw B ok w wr HR.out HS.out.len (by have := HP.out; rw [← HS.out.eq, HS.out.len] at this; exact this) (by omega) (by omega) (Nat.le_refl _) hl HC.out).mono ?_
                rintro e w1 ⟨rfl, E', h1, h2, h3⟩
                have H1 := Aside0.mk h1
                have HM' := Aside0.mk (show SMid (ltC cm) L E' n (2 * k) from ⟨HS.out.ah.last hw (by rw [← HS.out.eq, HS.out.len]; omega) (by rw [← HS.out.eq, HS.out.len]; exact h3), HS.out.st.trans h3.stab, h2, by omega⟩)
                clear h1 h2 h3
                go_wp2
                go_roundg (n - 2 * k)
                case measure => omega
                exact ⟨2 * k, E', rfl, by go_num, HM', H1⟩
              · have HD := Aside0.mk (HS.out.be.done_last (by rw [← HS.out.eq, HS.out.len]; omega) (by rw [← HS.out.eq, HS.out.len]; omega))
                have HM' := Aside0.mk (show SMid (ltC cm) L E n (2 * k) from ⟨HS.out.ah.last hw (by rw [← HS.out.eq, HS.out.len]; omega) HD.out, HS.out.st, HS.out.len, by omega⟩)
                go_wp2_with fail
                go_roundg (n - 2 * k)
                case measure => omega
                exact ⟨2 * k, E, rfl, by go_num, HM', HR⟩
        · go_wp2_with fail
          exact bodyPost_end (v := .tuple #[]) (by simp [results, Tryz.results60, go_sem]) rfl ⟨rfl, by rw [← Srt.sortL_of hw (HM.out.bl.up (by rw [HM.out.len]; omega)) HM.out.st]; exact HR.out⟩

/-- The list sorted, in the row where it stood. -/
def Sorted (B : Nat) (ok : Nat → Prop) (w : World) (v : Value) (L : List Bk) (en : Ending) (w' : World) : Prop := en = .returned (.tuple #[]) ∧ kBk.R 44 w' B ok v L ∧ w.grownBy w' v.ownBlock
theorem insertion0_c (A : Option Addr) (c : Nat) (f : FuncId) (cf : Array Value) (w : World) : Calls Tryz.prog 85 #[.slice A 0 c, .int .i64 0, .int .i64 0, .func (.func f) #[] cf] w (RetS w (.tuple #[])) := by
  go_enter Tryz.func85, Tryz.ntmps85
  go_wp2
  refine wp_loop_once ?_
  go_wp2
  exact bodyPost_end (v := .tuple #[]) (by simp [results, Tryz.results85, go_sem]) rfl ⟨rfl, rfl⟩
theorem stab0_c (A : Option Addr) (c : Nat) (f : FuncId) (cf : Array Value) (w : World) : Calls Tryz.prog 60 #[.slice A 0 c, .int .i64 0, .func (.func f) #[] cf] w (RetS w (.tuple #[])) := by
  have HI := Aside0.mk (insertion0_c A c f cf)
  go_enter Tryz.func60, Tryz.ntmps60
  go_wp2
  refine wp_loop_once ?_
  go_wp2_with (refine (HI.out _).mono ?_; rintro _ w1 ⟨rfl, rfl⟩)
  refine wp_loop_once ?_
  go_wp2
  exact bodyPost_end (v := .tuple #[]) (by simp [results, Tryz.results60, go_sem]) rfl ⟨rfl, rfl⟩
theorem stable0_c (A : Option Addr) (c : Nat) (f : FuncId) (cf : Array Value) (B : Nat) (ok : Nat → Prop) (w : World) (hR : kBk.R 44 w B ok (.slice A 0 c) []) :
    Calls Tryz.prog 33 #[.slice A 0 c, .func (.func f) #[] cf] w (Sorted B ok w (.slice A 0 c) []) := by
  have HS := Aside0.mk (stab0_c A c f cf)
  have HR := Aside0.mk hR
  clear hR
  go_enter Tryz.func33, Tryz.ntmps33
  go_wp2_with (refine (HS.out _).mono ?_; rintro _ w1 ⟨rfl, rfl⟩)
  exact bodyPost_end (v := .tuple #[]) (by simp [results, Tryz.results33, go_sem]) rfl ⟨rfl, HR.out, World.grownBy.refl _ _⟩
theorem sortStable_c (v : Value) (L : List Bk) (f : FuncId) (cf : Array Value) (cm : Bk → Bk → Int) (hw : Srt.Wk (ltC cm)) (B : Nat) (ok : Nat → Prop) (w : World) (hR : kBk.R 44 w B ok v L) (hl : L.length ≤ 1000000000) (hC : ∀ g, v.ownBlock = some g → CmpOk f cf cm g w) :
    Calls Tryz.prog 33 #[v, .func (.func f) #[] cf] w (Sorted B ok w v (Srt.sortL (ltC cm) L)) := by
  by_cases h0 : 0 < L.length
  · obtain ⟨g, cap, rfl, _, _, _, _⟩ := Kd.R_form hR h0
    have HR := Aside0.mk (show RowIs B ok w g L.length cap L w from ⟨hR, World.grownBy.refl _ _⟩)
    have HC := Aside0.mk (hC g rfl)
    have hm : L.length ≤ 9223372036854775807 := by omega
    clear hR hC
    go_enter Tryz.func33, Tryz.ntmps33
    go_wp2_with (refine (stable_c g L.length cap L f cf cm hw B ok w _ HR.out rfl hl HC.out).mono ?_; rintro _ w1 ⟨rfl, h1⟩; have H1 := Aside0.mk h1; clear h1)
    exact bodyPost_end (v := .tuple #[]) (by simp [results, Tryz.results33, go_sem]) rfl ⟨rfl, H1.out.1, H1.out.2⟩
  · have e0 : L = [] := List.eq_nil_of_length_eq_zero (by omega)
    subst e0
    obtain ⟨A, c, rfl⟩ := Kd.R_slice hR
    exact stable0_c A c f cf B ok w hR
end Go.Proofs.YtkoaangakmpggaaGreatDoor
end
section
/- The reference's ValidBook. -/
namespace Go.Proofs.YtkoaangakmpggaaGreatDoor
open Go.RowKit Go.Proofs.YtkoaangakmpggaaGreatDoorW.PrintWords Go.Proofs.YtkoaangakmpggaaGreatDoorW.PrintMore
set_option linter.unusedVariables false
set_option linter.unusedSimpArgs false
set_option maxRecDepth 100000

theorem vm0 {x y z : Int} (h : x < 97 ∨ 122 < x) : false = vMark x y z := by simp [vMark, inR]; omega
theorem vm1 {x y z : Int} (h : y < 97 ∨ 122 < y) : false = vMark x y z := by simp [vMark, inR]; omega
theorem vm2 {x y z : Int} (h : z < 97 ∨ 122 < z) : false = vMark x y z := by simp [vMark, inR]; omega
theorem vm3 {x y z : Int} (hx : 97 ≤ x ∧ x ≤ 122) (hy : 97 ≤ y ∧ y ≤ 122) (hz : 97 ≤ z ∧ z ≤ 122) : true = vMark x y z := by simp [vMark, inR]; omega
set_option maxHeartbeats 1000000 in
theorem l01Mark_c (x y z : Int) (w : World) : Calls Tryz.prog 90 #[.agg #[.int .u8 x, .int .u8 y, .int .u8 z]] w (Ret w (.bool (vMark x y z))) := by
  go_enter Tryz.func90, Tryz.ntmps90
  go_wp2
  go_loop [3] (fun v => ∃ k : Nat, k ≤ 3 ∧ v = .int .i64 k ∧ Aside0 ((0 < k → 97 ≤ x ∧ x ≤ 122) ∧ (1 < k → 97 ≤ y ∧ y ≤ 122) ∧ (2 < k → 97 ≤ z ∧ z ≤ 122))) (fun v => 3 - (intOf v).toNat)
  case atStart => exact ⟨0, by omega, rfl, ⟨by omega, by omega, by omega⟩⟩
  case round =>
    obtain ⟨k, hk, rfl, hp⟩ := hrel
    have hk' : k = 0 ∨ k = 1 ∨ k = 2 ∨ k = 3 := by omega
    clear hk
    rcases hk' with rfl | rfl | rfl | rfl
    · go_wp2
      all_goals first
        | (go_ret; exact ⟨ret_bool (vm0 (by omega)), balloc (Below.refl _ _) _⟩)
        | (go_round; (case rel => exact ⟨1, by omega, rfl, ⟨by omega, by omega, by omega⟩⟩); (case measure => simp [intOf]))
    · go_wp2
      all_goals first
        | (go_ret; exact ⟨ret_bool (vm1 (by omega)), balloc (Below.refl _ _) _⟩)
        | (have hp := hp.out; go_round; (case rel => exact ⟨2, by omega, rfl, ⟨by omega, by omega, by omega⟩⟩); (case measure => simp [intOf]))
    · go_wp2
      all_goals first
        | (go_ret; exact ⟨ret_bool (vm2 (by omega)), balloc (Below.refl _ _) _⟩)
        | (have hp := hp.out; go_round; (case rel => exact ⟨3, by omega, rfl, ⟨by omega, by omega, by omega⟩⟩); (case measure => simp [intOf]))
    · go_wp2
      have hp := hp.out
      go_ret
      exact ⟨ret_bool (vm3 (by omega) (by omega) (by omega)), balloc (Below.refl _ _) _⟩

set_option maxHeartbeats 1000000 in
theorem l01Book_c (b : Bk) (hok : b.ok) (a : Addr) (w : World) (ha : BkAt w a b) : Calls Tryz.prog 64 #[.pointer (some a)] w (Ret w (.bool (vBook b))) := by
  obtain ⟨⟨i0, i0'⟩, ⟨i1, i1'⟩, ⟨i2, i2'⟩, ⟨i3, i3'⟩, ⟨i4, i4'⟩, ⟨i5, i5'⟩, ⟨i6, i6'⟩, i7, i7'⟩ := hok
  have HA := Aside0.mk ha
  obtain ⟨x0, x1, x2, x3, x4, x5, x6, x7⟩ := ha
  cases h1 : inR b.c 0 999
  · have HV := Aside0.mk (show vBook b = false by simp [vBook, h1])
    go_enter Tryz.func64, Tryz.ntmps64
    go_wp2_with (first | (go_at_call 89; refine (l01Class_c _ _).mono ?_; rintro _ w1 ⟨rfl, rfl⟩) | (go_at_call 63; refine (l00In_c _ _ _ _).mono ?_; rintro _ w1 ⟨rfl, rfl⟩) | (go_at_call 90; refine (l01Mark_c _ _ _ _).mono ?_; rintro _ w1 ⟨rfl, hb1⟩; have HB1 := Aside0.mk hb1; obtain ⟨y0, y1, y2, y3, y4, y5, y6, y7⟩ := HA.out.below hb1; clear hb1))
    all_goals (go_ret; exact ⟨ret_bool HV.out.symm, Below.refl _ _⟩)
  · cases h2 : vMark b.m0 b.m1 b.m2
    · have HV := Aside0.mk (show vBook b = false by simp [vBook, h1, h2])
      go_enter Tryz.func64, Tryz.ntmps64
      go_wp2_with (first | (go_at_call 89; refine (l01Class_c _ _).mono ?_; rintro _ w1 ⟨rfl, rfl⟩) | (go_at_call 63; refine (l00In_c _ _ _ _).mono ?_; rintro _ w1 ⟨rfl, rfl⟩) | (go_at_call 90; refine (l01Mark_c _ _ _ _).mono ?_; rintro _ w1 ⟨rfl, hb1⟩; have HB1 := Aside0.mk hb1; obtain ⟨y0, y1, y2, y3, y4, y5, y6, y7⟩ := HA.out.below hb1; clear hb1))
      all_goals (go_ret; exact ⟨ret_bool HV.out.symm, HB1.out⟩)
    · cases h3 : inR b.v 1 99
      · have HV := Aside0.mk (show vBook b = false by simp [vBook, h1, h2, h3])
        go_enter Tryz.func64, Tryz.ntmps64
        go_wp2_with (first | (go_at_call 89; refine (l01Class_c _ _).mono ?_; rintro _ w1 ⟨rfl, rfl⟩) | (go_at_call 63; refine (l00In_c _ _ _ _).mono ?_; rintro _ w1 ⟨rfl, rfl⟩) | (go_at_call 90; refine (l01Mark_c _ _ _ _).mono ?_; rintro _ w1 ⟨rfl, hb1⟩; have HB1 := Aside0.mk hb1; obtain ⟨y0, y1, y2, y3, y4, y5, y6, y7⟩ := HA.out.below hb1; clear hb1))
        all_goals (go_ret; exact ⟨ret_bool HV.out.symm, HB1.out⟩)
      · cases h4 : inR b.wd 1 100
        · have HV := Aside0.mk (show vBook b = false by simp [vBook, h1, h2, h3, h4])
          go_enter Tryz.func64, Tryz.ntmps64
          go_wp2_with (first | (go_at_call 89; refine (l01Class_c _ _).mono ?_; rintro _ w1 ⟨rfl, rfl⟩) | (go_at_call 63; refine (l00In_c _ _ _ _).mono ?_; rintro _ w1 ⟨rfl, rfl⟩) | (go_at_call 90; refine (l01Mark_c _ _ _ _).mono ?_; rintro _ w1 ⟨rfl, hb1⟩; have HB1 := Aside0.mk hb1; obtain ⟨y0, y1, y2, y3, y4, y5, y6, y7⟩ := HA.out.below hb1; clear hb1))
          all_goals (go_ret; exact ⟨ret_bool HV.out.symm, HB1.out⟩)
        · cases h5 : inR b.h 50 400
          · have HV := Aside0.mk (show vBook b = false by simp [vBook, h1, h2, h3, h4, h5])
            go_enter Tryz.func64, Tryz.ntmps64
            go_wp2_with (first | (go_at_call 89; refine (l01Class_c _ _).mono ?_; rintro _ w1 ⟨rfl, rfl⟩) | (go_at_call 63; refine (l00In_c _ _ _ _).mono ?_; rintro _ w1 ⟨rfl, rfl⟩) | (go_at_call 90; refine (l01Mark_c _ _ _ _).mono ?_; rintro _ w1 ⟨rfl, hb1⟩; have HB1 := Aside0.mk hb1; obtain ⟨y0, y1, y2, y3, y4, y5, y6, y7⟩ := HA.out.below hb1; clear hb1))
            all_goals (go_ret; exact ⟨ret_bool HV.out.symm, HB1.out⟩)
          · cases h6 : inR b.wt 1 9999
            · have HV := Aside0.mk (show vBook b = false by simp [vBook, h1, h2, h3, h4, h5, h6])
              go_enter Tryz.func64, Tryz.ntmps64
              go_wp2_with (first | (go_at_call 89; refine (l01Class_c _ _).mono ?_; rintro _ w1 ⟨rfl, rfl⟩) | (go_at_call 63; refine (l00In_c _ _ _ _).mono ?_; rintro _ w1 ⟨rfl, rfl⟩) | (go_at_call 90; refine (l01Mark_c _ _ _ _).mono ?_; rintro _ w1 ⟨rfl, hb1⟩; have HB1 := Aside0.mk hb1; obtain ⟨y0, y1, y2, y3, y4, y5, y6, y7⟩ := HA.out.below hb1; clear hb1))
              all_goals (go_ret; exact ⟨ret_bool HV.out.symm, HB1.out⟩)
            · have HV := Aside0.mk (show vBook b = true by simp [vBook, h1, h2, h3, h4, h5, h6])
              go_enter Tryz.func64, Tryz.ntmps64
              go_wp2_with (first | (go_at_call 89; refine (l01Class_c _ _).mono ?_; rintro _ w1 ⟨rfl, rfl⟩) | (go_at_call 63; refine (l00In_c _ _ _ _).mono ?_; rintro _ w1 ⟨rfl, rfl⟩) | (go_at_call 90; refine (l01Mark_c _ _ _ _).mono ?_; rintro _ w1 ⟨rfl, hb1⟩; have HB1 := Aside0.mk hb1; obtain ⟨y0, y1, y2, y3, y4, y5, y6, y7⟩ := HA.out.below hb1; clear hb1))
              all_goals (go_ret; exact ⟨ret_bool HV.out.symm, HB1.out⟩)
end Go.Proofs.YtkoaangakmpggaaGreatDoor
end
section
/- Comparing two books: the reference's. -/
namespace Go.Proofs.YtkoaangakmpggaaGreatDoor
open Go.RowKit Go.Proofs.YtkoaangakmpggaaGreatDoorW.PrintWords Go.Proofs.YtkoaangakmpggaaGreatDoorW.PrintMore
set_option linter.unusedVariables false
set_option linter.unusedSimpArgs false
set_option maxRecDepth 100000

def nums (f : Int) (b : Bk) : Value := .agg #[.int .i64 (num0 f b), .int .i64 (num1 f b), .int .i64 (num2 f b)]
theorem nums_one {f : Int} (h : f ≠ 2) (b : Bk) : nums f b = .agg #[.int .i64 (num0 f b), .int .i64 0, .int .i64 0] := by
  unfold nums num1 num2
  rw [if_neg h, if_neg h]
set_option maxHeartbeats 4000000 in
theorem l01Numbers_c (f : Int) (b : Bk) (hok : b.ok) (a : Addr) (w : World) (ha : BkAt w a b) : Calls Tryz.prog 91 #[.pointer (some a), .int .i8 f] w (Ret w (nums f b)) := by
  obtain ⟨⟨i0, i0'⟩, ⟨i1, i1'⟩, ⟨i2, i2'⟩, ⟨i3, i3'⟩, ⟨i4, i4'⟩, ⟨i5, i5'⟩, ⟨i6, i6'⟩, i7, i7'⟩ := hok
  have hlt := ha.lt
  obtain ⟨x0, x1, x2, x3, x4, x5, x6, x7⟩ := ha
  by_cases e2 : f = 2
  · subst e2
    go_enter Tryz.func91, Tryz.ntmps91
    go_wp2_with fail
    refine wp_region_still_tail 19 (by kernel_rfl) (by kernel_rfl) ?_
    change wpStill _ _ (World.drew (w.alloc (.cells #[.int .i64 0, .int .i64 0, .int .i64 0] 122))) _ _ _
    simp only [List.take_succ_cons, List.take_zero, List.drop_succ_cons, List.drop_zero]
    repeat still_step
    refine wpStill_nil ?_
    change wpList _ _ _ _ _ (World.drew (w.alloc (.cells #[.int .i64 0, .int .i64 0, .int .i64 0] 122)))
    go_wp2_with fail
    refine bodyPost_ret (v := .agg #[.int .i64 b.m0, .int .i64 b.m1, .int .i64 b.m2]) (by simp [results, Tryz.results91, go_sem]) rfl ⟨rfl, ?_⟩
    first | exact balloc (Below.refl _ _) _ | exact bdrew (balloc (Below.refl _ _) _)
  · rw [nums_one e2]
    by_cases e1 : f = 1
    · subst e1
      go_enter Tryz.func91, Tryz.ntmps91
      go_wp2
      refine bodyPost_ret (v := .agg #[.int .i64 b.c, .int .i64 0, .int .i64 0]) (by simp [results, Tryz.results91, go_sem]) rfl ⟨rfl, ?_⟩
      first | exact balloc (Below.refl _ _) _ | exact bdrew (balloc (Below.refl _ _) _)
    · skip
      by_cases e3 : f = 3
      · subst e3
        go_enter Tryz.func91, Tryz.ntmps91
        go_wp2
        refine bodyPost_ret (v := .agg #[.int .i64 b.v, .int .i64 0, .int .i64 0]) (by simp [results, Tryz.results91, go_sem]) rfl ⟨rfl, ?_⟩
        first | exact balloc (Below.refl _ _) _ | exact bdrew (balloc (Below.refl _ _) _)
      · skip
        by_cases e4 : f = 4
        · subst e4
          go_enter Tryz.func91, Tryz.ntmps91
          go_wp2
          refine bodyPost_ret (v := .agg #[.int .i64 b.wd, .int .i64 0, .int .i64 0]) (by simp [results, Tryz.results91, go_sem]) rfl ⟨rfl, ?_⟩
          first | exact balloc (Below.refl _ _) _ | exact bdrew (balloc (Below.refl _ _) _)
        · skip
          by_cases e5 : f = 5
          · subst e5
            go_enter Tryz.func91, Tryz.ntmps91
            go_wp2
            refine bodyPost_ret (v := .agg #[.int .i64 b.h, .int .i64 0, .int .i64 0]) (by simp [results, Tryz.results91, go_sem]) rfl ⟨rfl, ?_⟩
            first | exact balloc (Below.refl _ _) _ | exact bdrew (balloc (Below.refl _ _) _)
          · skip
            have HE := Aside0.mk (show num0 f b = b.wt by unfold num0; rw [if_neg e1, if_neg e2, if_neg e3, if_neg e4, if_neg e5])
            have n2 : (f == 2) = false := by simpa using e2
            have n1 : (f == 1) = false := by simpa using e1
            have n3 : (f == 3) = false := by simpa using e3
            have n4 : (f == 4) = false := by simpa using e4
            have n5 : (f == 5) = false := by simpa using e5
            clear e1 e2 e3 e4 e5
            go_enter Tryz.func91, Tryz.ntmps91
            go_wp2
            refine bodyPost_ret (v := .agg #[.int .i64 b.wt, .int .i64 0, .int .i64 0]) (by simp [results, Tryz.results91, go_sem]) rfl ⟨by rw [HE.out], ?_⟩
            first | exact balloc (Below.refl _ _) _ | exact bdrew (balloc (Below.refl _ _) _)
end Go.Proofs.YtkoaangakmpggaaGreatDoor
end
