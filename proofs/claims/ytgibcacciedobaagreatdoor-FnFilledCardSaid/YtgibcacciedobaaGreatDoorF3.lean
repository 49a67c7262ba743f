/- Texts of this proof that belong together: Seat, Base, All, Book, SmN, SpecBook, Valid, TotL, To, Mem, ToS, Row, Own, Scal, Case, CsValid, Fit, Over, MovA, Lay, Bad, BadS, PosX. No condition. -/
import Derived.Test.YtgibcacciedobaaGreatDoorF2
import Derived.Test.YtgibcacciedobaaGreatDoorRows
import Derived.JoinedOf
import Derived.Test.YtgibcacciedobaaGreatDoorProg
import Derived.KernelRfl
import Derived.StillTailTactics
import Derived.Still
import Derived.Deep.QuietTactic
import Derived.BigQuiet
import Derived.Deep.RegionHeld3
import Derived.Deep.RegionWith
section
/- The dump's head, read once as a list of signs: three closed facts of every row of this seat lean on it. No condition. -/
namespace Go.Proofs.YtgibcacciedobaaGreatDoor
abbrev c (n : Nat) : Char := Char.ofNat n
theorem toList_of (l : List Char) (s : String) (h : s = String.ofList l) : s.toList = l := by rw [h, String.toList_ofList]
def headSigns : List Char := [
c 104, c 97, c 114, c 110, c 101, c 115, c 115, c 32, c 50, c 56, c 48, c 101, c 48, c 50, c 97, c 56, c 101, c 97, c 100, c 100, c 53, c 57, c 100, 
c 53, c 97, c 52, c 50, c 52, c 54, c 97, c 49, c 55, c 53, c 98, c 53, c 97, c 97, c 49, c 50, c 53, c 54, c 57, c 100, c 99, c 100, c 48, c 51, c 49, 
c 50, c 55, c 99, c 99, c 51, c 99, c 51, c 55, c 55, c 99, c 48, c 56, c 52, c 52, c 98, c 97, c 54, c 97, c 50, c 101, c 55, c 97, c 50, c 53, c 32, 
c 99, c 117, c 116, c 32, c 97, c 116, c 32, c 108, c 111, c 111, c 112, c 46, c 101, c 120, c 97, c 109, c 112, c 108, c 101, c 47, c 103, c 48, c 49, 
c 51, c 50, c 54, c 47, c 108, c 97, c 119, c 115, c 46, c 70, c 110, c 83, c 111, c 114, c 116, c 101, c 100, c 76, c 105, c 115, c 116, c 115, c 32, 
c 108, c 111, c 111, c 112, c 46, c 101, c 120, c 97, c 109, c 112, c 108, c 101, c 47, c 103, c 48, c 49, c 51, c 50, c 54, c 47, c 108, c 97, c 119, 
c 115, c 46, c 70, c 110, c 66, c 111, c 111, c 107, c 115, c 32, c 108, c 111, c 111, c 112, c 46, c 101, c 120, c 97, c 109, c 112, c 108, c 101, 
c 47, c 103, c 48, c 49, c 51, c 50, c 54, c 47, c 108, c 97, c 119, c 115, c 46, c 70, c 110, c 70, c 105, c 108, c 108, c 101, c 100]
set_option maxRecDepth 100000 in
theorem head_signs : Tryz.prog.initOrder.toList = headSigns := toList_of _ _ (by unfold headSigns; kernel_rfl)
theorem words_ : ∃ rest, behindMainWord (wordsSigns Tryz.prog.initOrder.toList) = "cut".toList :: rest := by
  rw [head_signs]
  exact ⟨(behindMainWord (wordsSigns headSigns)).tail, by kernel_rfl⟩
theorem strip_cut (rest : List (List Char)) : stripLifts liftWords ("cut".toList :: rest) = ([], "cut".toList :: rest) := by kernel_rfl
theorem mayEnter_gen (P : Program) (rest : List (List Char)) (h : behindMainWord (wordsSigns P.initOrder.toList) = "cut".toList :: rest) (h1 : P.laysLater = false) (h2 : P.bearsReflect = false) (h3 : P.doorFits [] = true) : P.mayEnter = true := by
  unfold Program.mayEnter
  rw [h]
  simp only [strip_cut, h1, h2, h3]
  kernel_rfl
theorem headLifts_gen (P : Program) (rest : List (List Char)) (h : behindMainWord (wordsSigns P.initOrder.toList) = "cut".toList :: rest) : P.headLifts = [] := by
  unfold Program.headLifts
  rw [h]
  simp only [strip_cut]
  kernel_rfl
theorem liftsFinal_gen (P : Program) (rest : List (List Char)) (h : behindMainWord (wordsSigns P.initOrder.toList) = "cut".toList :: rest) : P.liftsFinal = false := by
  unfold Program.liftsFinal
  rw [h, headLifts_gen P rest h]
  kernel_rfl
theorem make_gen (P : Program) (rest : List (List Char)) (h : behindMainWord (wordsSigns P.initOrder.toList) = "cut".toList :: rest) : P.make = some .cut := by
  unfold Program.make
  rw [h, headLifts_gen P rest h]
  kernel_rfl
theorem laysLater_ : Tryz.prog.laysLater = false := by kernel_rfl
theorem bearsReflect_ : Tryz.prog.bearsReflect = false := by kernel_rfl
theorem doorFits_ : Tryz.prog.doorFits [] = true := by kernel_rfl
theorem mayEnter_ : Tryz.prog.mayEnter = true := words_.elim fun rest h => mayEnter_gen _ rest h laysLater_ bearsReflect_ doorFits_
theorem liftsFinal_ : Tryz.prog.liftsFinal = false := words_.elim fun rest h => liftsFinal_gen _ rest h
theorem make_ : Tryz.prog.make = some .cut := words_.elim fun rest h => make_gen _ rest h
/-- The closed facts of a row, the three on the head apart. -/
theorem facts_of (P : Program) (f : FuncId) (fn : Func) (s : ChangeSpec) (c : OpenClaim) (m1 : P.mayEnter = true) (m2 : P.liftsFinal = false) (m3 : P.make = some .cut) (hl : c.lifted = false) (hm : c.make = .cut)
    (k1 : (c.wf (OpenSpec.ofChange s) && laidOutB P && mapsRowed P && fn.params.all (P.readableRec ·) && namedTie P c.named s.vars && (c.stops == []) && (P.stops == []) && (c.knobs == []) && (P.stopKnobs == [])) = true)
    (k2 : (c.inPlace == P.inPlace f) = true) (k3 : (c.unfollowed == P.unfollowed f) = true) (k4 : (c.recurses == P.recurses f) = true) (k5 : (c.named == P.varsNamed f) = true)
    (k6 : (c.maps == (fn.params.toList ++ s.plain.varTypes P).any (P.mapsRec ·)) = true) (k7 : (c.ifaces == (fn.params.toList ++ s.plain.varTypes P).any (P.ifacesRec ·)) = true) (k8 : (c.mapsOut == P.mapsAmong fn.resultTypes.toList) = true)
    (k9 : (c.loops == (fn.params.toList ++ s.plain.varTypes P).any (P.loopsFrom ·)) = true) (k10 : (c.wideKeys == (fn.params.toList ++ s.plain.varTypes P ++ fn.resultTypes.toList).any (P.wideKeysFrom ·)) = true)
    (k11 : s.vars.all (P.varReadable ·) = true) (k12 : fn.resultTypes.all (fun t => P.readableRec t && decide (t < P.types.size)) = true) (k13 : (c.ifacesOut == fn.resultTypes.toList.any (P.ifacesRec ·)) = true) (k14 : (c.loopsOut == fn.resultTypes.toList.any (P.loopsFrom ·)) = true)
    (k15 : (c.plainKeys == P.plainKeys) = true) (k16 : c.shortTexts.isNone = true) (k17 : P.stopsHeard = true)
    (k18 : (c.kinds == (if c.domain.isEmpty then [] else fn.params.toList.map fun t => match P.underlying t with | some (.int k) => some k | _ => none)) = true) (k19 : (c.pinned == c.pinnedBy) = true)
    (k20 : (c.veiled == (fn.params.toList ++ s.plain.varTypes P ++ fn.resultTypes.toList).any (P.veiledRec ·)) = true) (k21 : c.veiledFits P fn.params.toList (fn.params.toList ++ s.plain.varTypes P ++ fn.resultTypes.toList) = true) : joinedFacts P f fn s c = true := by
  have e2 : (c.lifted == P.liftsFinal) = true := by rw [m2, hl]; rfl
  have e3 : (P.make == some c.make) = true := by rw [m3, hm]; kernel_rfl
  unfold joinedFacts
  simp only [Bool.and_eq_true] at k1 ⊢
  obtain ⟨⟨⟨⟨⟨⟨⟨⟨a1, a2⟩, a3⟩, a4⟩, a5⟩, a6⟩, a7⟩, a8⟩, a9⟩ := k1
  exact ⟨⟨⟨⟨⟨⟨⟨⟨⟨⟨⟨⟨⟨⟨⟨⟨⟨⟨⟨⟨⟨⟨⟨⟨⟨⟨⟨⟨⟨⟨⟨a1, a2⟩, a3⟩, a4⟩, a5⟩, a6⟩, a7⟩, a8⟩, a9⟩, k2⟩, k3⟩, k4⟩, k5⟩, k6⟩, k7⟩, k8⟩, k9⟩, k10⟩, k11⟩, k12⟩, k13⟩, k14⟩, k15⟩, k16⟩, k17⟩, m1⟩, e2⟩, e3⟩, k18⟩, k19⟩, k20⟩, k21⟩
end Go.Proofs.YtgibcacciedobaaGreatDoor
end
section
/- Base words of this project: contracts' forms, flat kinds, reading a row by natural numbers. -/
namespace Go.Proofs.YtgibcacciedobaaGreatDoor
open Go.RowKit Go.Proofs.YtgibcacciedobaaGreatDoorW.PrintWords Go.Proofs.YtgibcacciedobaaGreatDoorW.PrintMore
set_option linter.unusedVariables false
set_option linter.unusedSimpArgs false

/-- It returned v; below the heap's size the world is as it was. -/
def Ret (w : World) (v : Value) (e : Ending) (w' : World) : Prop := e = .returned v ∧ Below w.heap.size w w'
/-- It returned v; the world is as it was. -/
def RetS (w : World) (v : Value) (e : Ending) (w' : World) : Prop := e = .returned v ∧ w = w'
/-- It returned a value of which Q holds in the world behind the call. -/
def RetQ (w : World) (Q : Value → World → Prop) (e : Ending) (w' : World) : Prop := ∃ v, e = .returned v ∧ Below w.heap.size w w' ∧ Q v w'
theorem RetS.ret {w : World} {v : Value} {e : Ending} {w' : World} (h : RetS w v e w') : Ret w v e w' := by
  obtain ⟨h1, rfl⟩ := h
  exact ⟨h1, Below.refl _ _⟩
theorem ret_bool {a b : Bool} (h : a = b) : Ending.returned (.bool a) = .returned (.bool b) := by rw [h]
theorem ret_int {k : IntKind} {a b : Int} (h : a = b) : Ending.returned (.int k a) = .returned (.int k b) := by rw [h]
/-- Below, from where the call began, and a step. -/
theorem bstep {w w1 w2 : World} (h : Below w.heap.size w w1) (k : Below w1.heap.size w1 w2) : Below w.heap.size w w2 := h.trans (k.mono h.size)
theorem balloc {w w1 : World} (h : Below w.heap.size w w1) (o : Obj) : Below w.heap.size w (w1.alloc o) := h.alloc h.size o
theorem bdrew {w w1 : World} (h : Below w.heap.size w w1) : Below w.heap.size w w1.drew := h.drew
theorem bdrewN {w w1 : World} (h : Below w.heap.size w w1) (n : Nat) : Below w.heap.size w (w1.drewN n) := pw_below_drewN h n

/-- What lay below reads as before: two rules for the walk. -/
theorem bcell {W w1 : World} (hb : Below W.heap.size W w1) : (∀ b o, b < W.heap.size → w1.cell? ⟨b, o, none⟩ = W.cell? ⟨b, o, none⟩) ∧ (∀ b o, b < W.heap.size → w1.frozen? ⟨b, o, none⟩ = W.frozen? ⟨b, o, none⟩) :=
  ⟨fun b o h => hb.cell (p := ⟨b, o, none⟩) h, fun b o h => hb.frozen (p := ⟨b, o, none⟩) h⟩

/-- A function of the program that has a body. -/
def Fun (P : Program) (f : FuncId) : Prop := ∃ fn, P.funcs[f]? = some fn ∧ (fn.name == "runtime.NumGoroutine") = false ∧ fn.body.isSome = true
theorem Fun.run {P : Program} {f : FuncId} (h : Fun P f) (args : Array Value) (w : World) : (callFunc f args).run P w = .ok (.enter f args) w := by
  obtain ⟨fn, hf, hn, hb⟩ := h
  exact Go.Proofs.YtgibcacciedobaaGreatDoorW.PrintLast.enters_ hf hn hb args w

namespace Kd
/-- Elements of a fixed number of cells, none of which leads anywhere. -/
def flat {α : Type} (enc : α → List Value) (n : Nat) (hl : ∀ x, (enc x).length = n) (h1 : ∀ x u, u ∈ enc x → u.oneCell' = true) : Kd α where
  sz := n
  E := []
  K := fun _ x cs => cs = enc x
  M := fun _ _ _ x cs => cs = enc x
  K_len := fun h => by rw [h, hl]
  K_one := fun h u hu => by rw [h] at hu; exact h1 _ u hu
  K_below := fun _ h => h
  K_of_M := fun h => h
  M_mono := fun _ h => h
  M_bound := fun h => h
  M_move := fun _ h => h
  M_lower := fun _ h => h
end Kd

theorem at_int' {k : IntKind} {xs : List Int} {w : World} {A : Option Addr} {n : Nat} (h : (Kd.int k).C w A n xs) (i : Nat) (hi : i < n) :
    ∃ ad x, A = some ad ∧ Aside0 (xs[i]? = some x) ∧ w.cell? (ad.add i) = some (.int k x) := by
  obtain ⟨ad, e, hx⟩ := Kd.at_int h i (by omega) (by omega)
  have hl : i < xs.length := by have := Kd.C_len h; omega
  refine ⟨ad, xs[i], e, ⟨List.getElem?_eq_getElem hl⟩, ?_⟩
  rw [Int.toNat_natCast] at hx
  rw [hx]
  simp [rd, List.getD_eq_getElem?_getD, List.getElem?_eq_getElem hl]

theorem mem_of {α : Type} {L : List α} {i : Nat} {x : α} (h : L[i]? = some x) : x ∈ L := List.mem_of_getElem? h
theorem take_snoc {α : Type} {L : List α} {i : Nat} {x : α} (h : L[i]? = some x) : L.take (i + 1) = L.take i ++ [x] := by
  rw [List.take_add_one, h]; rfl

/-- the index of the first element with p, or -1 -/
def idxF {α : Type} (L : List α) (p : α → Bool) : Int := if L.any p then (L.findIdx p : Nat) else -1
theorem idxF_hit {α : Type} {L : List α} {p : α → Bool} {k : Nat} {x : α} (h0 : ∀ y, y ∈ L.take k → p y = false) (hx : L[k]? = some x) (hp : p x = true) : idxF L p = (k : Int) := by
  have hl : k < L.length := (List.getElem?_eq_some_iff.1 hx).1
  have hxe : L[k] = x := (List.getElem?_eq_some_iff.1 hx).2
  have ha : L.any p = true := List.any_eq_true.2 ⟨x, mem_of hx, hp⟩
  unfold idxF
  rw [if_pos ha]
  congr 1
  rw [List.findIdx_eq hl]
  refine ⟨by rw [hxe]; exact hp, fun j hj => ?_⟩
  exact h0 _ (List.mem_take_iff_getElem.2 ⟨j, by omega, rfl⟩)
theorem idxF_none {α : Type} {L : List α} {p : α → Bool} (h0 : ∀ y, y ∈ L → p y = false) : idxF L p = -1 := by
  unfold idxF
  rw [if_neg]
  intro h
  obtain ⟨x, hx, hp⟩ := List.any_eq_true.1 h
  rw [h0 x hx] at hp
  cases hp
theorem idxF_any {α : Type} (L : List α) (p : α → Bool) : decide (0 ≤ idxF L p) = L.any p := by
  unfold idxF
  by_cases h : L.any p = true
  · rw [if_pos h, h]; simp
  · rw [if_neg h]; simp at h ⊢; exact h

def inR (n lo hi : Int) : Bool := decide (lo ≤ n) && decide (n ≤ hi)
theorem inR_iff {n lo hi : Int} : inR n lo hi = true ↔ lo ≤ n ∧ n ≤ hi := by simp [inR]

/-- A book. -/
structure Bk where
  c : Int
  m0 : Int
  m1 : Int
  m2 : Int
  v : Int
  wd : Int
  h : Int
  wt : Int
deriving DecidableEq
def Bk.cells (b : Bk) : List Value := [.int .i16 b.c, .int .u8 b.m0, .int .u8 b.m1, .int .u8 b.m2, .int .i16 b.v, .int .i16 b.wd, .int .i16 b.h, .int .i16 b.wt]
def Bk.val (b : Bk) : Value := .agg #[.int .i16 b.c, .int .u8 b.m0, .int .u8 b.m1, .int .u8 b.m2, .int .i16 b.v, .int .i16 b.wd, .int .i16 b.h, .int .i16 b.wt]
/-- The numbers are of their kinds. -/
def I16 (x : Int) : Prop := -32768 ≤ x ∧ x ≤ 32767
def U8 (x : Int) : Prop := 0 ≤ x ∧ x ≤ 255
def Bk.ok (b : Bk) : Prop := I16 b.c ∧ U8 b.m0 ∧ U8 b.m1 ∧ U8 b.m2 ∧ I16 b.v ∧ I16 b.wd ∧ I16 b.h ∧ I16 b.wt
def kBk : Kd Bk := Kd.flat Bk.cells 8 (fun _ => rfl) (fun x u hu => by
  simp only [Bk.cells, List.mem_cons, List.not_mem_nil, or_false] at hu
  rcases hu with rfl | rfl | rfl | rfl | rfl | rfl | rfl | rfl <;> rfl)
theorem addf (ad : Addr) (m j : Nat) (hj : 0 < j) : ad.add (m + j) = ⟨(ad.add m).block, (ad.add m).off + j, none⟩ := add_field ad m j hj
/-- Element i of a row of books: its cells as a field's load finds them. -/
theorem at_bk {xs : List Bk} {w : World} {A : Option Addr} {n : Nat} (h : kBk.C w A n xs) (i : Nat) (hi : i < n) :
    ∃ ad b, A = some ad ∧ Aside0 (xs[i]? = some b) ∧ w.cell? (ad.add (i * 8)) = some (.int .i16 b.c) ∧
      w.cell? ⟨(ad.add (i * 8)).block, (ad.add (i * 8)).off + 1, none⟩ = some (.int .u8 b.m0) ∧
      w.cell? ⟨(ad.add (i * 8)).block, (ad.add (i * 8)).off + 2, none⟩ = some (.int .u8 b.m1) ∧
      w.cell? ⟨(ad.add (i * 8)).block, (ad.add (i * 8)).off + 3, none⟩ = some (.int .u8 b.m2) ∧
      w.cell? ⟨(ad.add (i * 8)).block, (ad.add (i * 8)).off + 4, none⟩ = some (.int .i16 b.v) ∧
      w.cell? ⟨(ad.add (i * 8)).block, (ad.add (i * 8)).off + 5, none⟩ = some (.int .i16 b.wd) ∧
      w.cell? ⟨(ad.add (i * 8)).block, (ad.add (i * 8)).off + 6, none⟩ = some (.int .i16 b.h) ∧
      w.cell? ⟨(ad.add (i * 8)).block, (ad.add (i * 8)).off + 7, none⟩ = some (.int .i16 b.wt) := by
  have hl : i < xs.length := by have := Kd.C_len h; omega
  obtain ⟨ad, c, e, hc, hK, hcc⟩ := Kd.C_get h xs[i] i (by omega) (by omega)
  rw [Int.toNat_natCast] at hK hcc
  have hx : xs.getD i xs[i] = xs[i] := by simp [List.getD_eq_getElem?_getD, List.getElem?_eq_getElem hl]
  rw [hx] at hK
  have hK' : c = Bk.cells xs[i] := hK
  subst hK'
  have hcc' : ∀ j u, (Bk.cells xs[i])[j]? = some u → w.cell? (ad.add (i * 8 + j)) = some u := hcc
  refine ⟨ad, xs[i], e, ⟨List.getElem?_eq_getElem hl⟩, hcc' 0 _ rfl, ?_, ?_, ?_, ?_, ?_, ?_, ?_⟩ <;>
    (rw [← addf _ _ _ (by omega)]; exact hcc' _ _ rfl)
/-- A book lies at an address. -/
structure BkAt (w : World) (a : Addr) (b : Bk) : Prop where
  c0 : w.cell? a = some (.int .i16 b.c)
  c1 : w.cell? ⟨a.block, a.off + 1, none⟩ = some (.int .u8 b.m0)
  c2 : w.cell? ⟨a.block, a.off + 2, none⟩ = some (.int .u8 b.m1)
  c3 : w.cell? ⟨a.block, a.off + 3, none⟩ = some (.int .u8 b.m2)
  c4 : w.cell? ⟨a.block, a.off + 4, none⟩ = some (.int .i16 b.v)
  c5 : w.cell? ⟨a.block, a.off + 5, none⟩ = some (.int .i16 b.wd)
  c6 : w.cell? ⟨a.block, a.off + 6, none⟩ = some (.int .i16 b.h)
  c7 : w.cell? ⟨a.block, a.off + 7, none⟩ = some (.int .i16 b.wt)
theorem BkAt.lt {w : World} {a : Addr} {b : Bk} (h : BkAt w a b) : a.block < w.heap.size := World.block_lt_of_cell? w a h.c0
theorem BkAt.below {w w1 : World} {a : Addr} {b : Bk} (h : BkAt w a b) (hb : Below w.heap.size w w1) : BkAt w1 a b :=
  ⟨(hb.cell (p := a) h.lt).trans h.c0, (hb.cell (p := ⟨a.block, a.off + 1, none⟩) h.lt).trans h.c1, (hb.cell (p := ⟨a.block, a.off + 2, none⟩) h.lt).trans h.c2, (hb.cell (p := ⟨a.block, a.off + 3, none⟩) h.lt).trans h.c3,
   (hb.cell (p := ⟨a.block, a.off + 4, none⟩) h.lt).trans h.c4, (hb.cell (p := ⟨a.block, a.off + 5, none⟩) h.lt).trans h.c5, (hb.cell (p := ⟨a.block, a.off + 6, none⟩) h.lt).trans h.c6, (hb.cell (p := ⟨a.block, a.off + 7, none⟩) h.lt).trans h.c7⟩
theorem BkAt.box (w : World) (b : Bk) (t : TypeId) : BkAt (w.alloc (.cells #[.int .i16 b.c, .int .u8 b.m0, .int .u8 b.m1, .int .u8 b.m2, .int .i16 b.v, .int .i16 b.wd, .int .i16 b.h, .int .i16 b.wt] t)) ⟨w.heap.size, 0, none⟩ b :=
  ⟨(blk_cell (blk_new w _) 0).trans rfl, (blk_cell (blk_new w _) 1).trans rfl, (blk_cell (blk_new w _) 2).trans rfl, (blk_cell (blk_new w _) 3).trans rfl, (blk_cell (blk_new w _) 4).trans rfl, (blk_cell (blk_new w _) 5).trans rfl, (blk_cell (blk_new w _) 6).trans rfl, (blk_cell (blk_new w _) 7).trans rfl⟩
theorem at_bk' {xs : List Bk} {w : World} {A : Option Addr} {n : Nat} (h : kBk.C w A n xs) (i : Nat) (hi : i < n) :
    ∃ ad b, A = some ad ∧ Aside0 (xs[i]? = some b) ∧ BkAt w (ad.add (i * 8)) b := by
  obtain ⟨ad, b, e, hb, h0, h1, h2, h3, h4, h5, h6, h7⟩ := at_bk h i hi
  exact ⟨ad, b, e, hb, h0, h1, h2, h3, h4, h5, h6, h7⟩
end Go.Proofs.YtgibcacciedobaaGreatDoor
end
section
/- areAll, slices.ContainsFunc, slices.IndexFunc at books and at bytes: they ask the function value of every element. -/
namespace Go.Proofs.YtgibcacciedobaaGreatDoor
open Go.RowKit Go.Proofs.YtgibcacciedobaaGreatDoorW.PrintWords Go.Proofs.YtgibcacciedobaaGreatDoorW.PrintMore
set_option linter.unusedVariables false
set_option linter.unusedSimpArgs false
set_option maxRecDepth 100000


theorem indexFuncBk_c (A : Option Addr) (c : Nat) (L : List Bk) (f : FuncId) (cap : Array Value) (p : Bk → Bool) (w : World)
    (hL : kBk.C w A L.length L) (hfn : Fun Tryz.prog f)
    (hf : ∀ W, Below w.heap.size w W → ∀ x, x ∈ L → Calls Tryz.prog f (#[x.val] ++ cap) W (Ret W (.bool (p x)))) :
    Calls Tryz.prog 80 #[.slice A L.length c, .func (.func f) #[] cap] w (Ret w (.int .i64 (idxF L p))) := by
  have hm := Kd.C_max hL
  have hcf := hfn.run
  have HF := Aside0.mk hf
  have HL := Aside0.mk hL
  clear hf hfn hL
  go_enter Tryz.func80, Tryz.ntmps80
  go_wp2
  go_loopg [8] L.length (fun gk v8 wr => ∃ k : Nat, k + gk = L.length ∧ v8 = .int .i64 k ∧ Aside0 (∀ x, x ∈ L.take k → p x = false) ∧ Aside0 (Below w.heap.size w wr))
  case atStart => exact ⟨0, by omega, rfl, ⟨by simp⟩, ⟨Below.refl _ _⟩⟩
  case round =>
    obtain ⟨k, hk, rfl, hp, hb⟩ := hrel
    have HK := Aside0.mk hk
    by_cases hlt : k < L.length
    · obtain ⟨ad, b, rfl, hbk, hx0, hx1, hx2, hx3, hx4, hx5, hx6, hx7⟩ := at_bk (Kd.C_below HL.out hb.out) k (by omega)
      clear hk
      go_wp2_with (refine (HF.out _ hb.out _ (mem_of hbk.out)).mono ?_; rintro _ w1 ⟨rfl, hb1⟩)
      · rename_i hpb
        go_ret
        exact ⟨ret_int (idxF_hit hp.out hbk.out hpb).symm, bstep hb.out hb1⟩
      · rename_i hpb
        go_roundg (gk - 1)
        case measure => have := HK.out; omega
        case rel => exact ⟨k + 1, by have := HK.out; omega, by go_num, ⟨fun y hy => by rw [take_snoc hbk.out] at hy; rcases List.mem_append.1 hy with hy | hy; exact hp.out y hy; rw [List.mem_singleton.1 hy]; exact hpb⟩, ⟨bstep hb.out hb1⟩⟩
    · clear hk
      go_wp2
      go_ret
      refine ⟨ret_int (idxF_none ?_).symm, hb.out⟩
      have hp1 := hp.out
      rw [List.take_of_length_le (by omega)] at hp1
      exact hp1


theorem containsFuncBk_c (A : Option Addr) (c : Nat) (L : List Bk) (f : FuncId) (cap : Array Value) (p : Bk → Bool) (w : World)
    (hL : kBk.C w A L.length L) (hfn : Fun Tryz.prog f)
    (hf : ∀ W, Below w.heap.size w W → ∀ x, x ∈ L → Calls Tryz.prog f (#[x.val] ++ cap) W (Ret W (.bool (p x)))) :
    Calls Tryz.prog 161 #[.slice A L.length c, .func (.func f) #[] cap] w (Ret w (.bool (L.any p))) := by
  have HI := Aside0.mk (indexFuncBk_c A c L f cap p w hL hfn hf)
  clear hL hfn hf
  go_enter Tryz.func161, Tryz.ntmps161
  go_wp2_with (go_at_call 80; refine HI.out.mono ?_; rintro _ w1 ⟨rfl, hb1⟩)
  all_goals (go_ret; exact ⟨ret_bool (idxF_any L p), hb1⟩)


theorem allCloBk_c (x : Bk) (f : FuncId) (cap : Array Value) (g : Nat) (w : World) (r : Bool) (hc : w.cell? ⟨g, 0, none⟩ = some (.func (.func f) #[] cap)) (hg : g < w.heap.size)
    (hf : ∀ W, Below w.heap.size w W → Calls Tryz.prog f (#[x.val] ++ cap) W (Ret W (.bool r))) (hfn : Fun Tryz.prog f) :
    Calls Tryz.prog 162 #[x.val, .pointer (some ⟨g, 0, none⟩)] w (Ret w (.bool (!r))) := by
  have hcf := hfn.run
  have HF := Aside0.mk hf
  have hca : ∀ o, (w.alloc o).cell? ⟨g, 0, none⟩ = some (.func (.func f) #[] cap) := fun o => (World.cell?_alloc_lt w o _ hg).trans hc
  clear hf hfn
  simp only [Bk.val]
  go_enter Tryz.func162, Tryz.ntmps162
  go_wp2_with (refine (HF.out _ (by first | exact Below.refl _ _ | exact balloc (Below.refl _ _) _)).mono ?_; rintro _ w1 ⟨rfl, hb1⟩)
  all_goals (go_ret; exact ⟨rfl, by first | exact hb1 | exact bstep (balloc (Below.refl _ _) _) hb1⟩)
theorem areAllBk_c (A : Option Addr) (c : Nat) (L : List Bk) (f : FuncId) (cap : Array Value) (p : Bk → Bool) (w : World)
    (hL : kBk.C w A L.length L) (hfn : Fun Tryz.prog f)
    (hf : ∀ W, Below w.heap.size w W → ∀ x, x ∈ L → Calls Tryz.prog f (#[x.val] ++ cap) W (Ret W (.bool (p x)))) :
    Calls Tryz.prog 106 #[.slice A L.length c, .func (.func f) #[] cap] w (Ret w (.bool (L.all p))) := by
  have hcl : ∀ W, Below (w.alloc (.cells #[.func (.func f) #[] cap] 54)).heap.size (w.alloc (.cells #[.func (.func f) #[] cap] 54)) W → ∀ x, x ∈ L →
      Calls Tryz.prog 162 (#[x.val] ++ #[.pointer (some ⟨w.heap.size, 0, none⟩)]) W (Ret W (.bool (!(p x)))) := fun W hW x hx => by
    have h0 : W.cell? ⟨w.heap.size, 0, none⟩ = some (.func (.func f) #[] cap) := by
      rw [hW.cell (by simp)]; exact (blk_cell (blk_new w _) 0).trans rfl
    have hbW : Below w.heap.size w W := bstep (balloc (Below.refl _ _) _) hW
    exact allCloBk_c x f cap w.heap.size W (p x) h0 (by have := hW.size; simp at this; omega) (fun W' hW' => hf W' (bstep hbW hW') x hx) hfn
  have HI := Aside0.mk (containsFuncBk_c A c L 162 #[.pointer (some ⟨w.heap.size, 0, none⟩)] (fun x => !(p x)) (w.alloc (.cells #[.func (.func f) #[] cap] 54)) (Kd.C_alloc hL _) ⟨_, Tryz.func162, rfl, rfl⟩ hcl)
  clear hL hfn hf hcl
  go_enter Tryz.func106, Tryz.ntmps106
  go_wp2_with (go_at_call 161; refine HI.out.mono ?_; rintro _ w1 ⟨rfl, hb1⟩)
  all_goals (go_ret; exact ⟨ret_bool (by rw [List.all_eq_not_any_not]), bstep (balloc (Below.refl _ _) _) hb1⟩)


theorem indexFuncBy_c (A : Option Addr) (c : Nat) (L : List Int) (f : FuncId) (cap : Array Value) (p : Int → Bool) (w : World)
    (hL : (Kd.int .u8).C w A L.length L) (hfn : Fun Tryz.prog f)
    (hf : ∀ W, Below w.heap.size w W → ∀ x, x ∈ L → Calls Tryz.prog f (#[.int .u8 x] ++ cap) W (Ret W (.bool (p x)))) :
    Calls Tryz.prog 180 #[.slice A L.length c, .func (.func f) #[] cap] w (Ret w (.int .i64 (idxF L p))) := by
  have hm := Kd.C_max hL
  have hcf := hfn.run
  have HF := Aside0.mk hf
  have HL := Aside0.mk hL
  clear hf hfn hL
  go_enter Tryz.func180, Tryz.ntmps180
  go_wp2
  go_loopg [8] L.length (fun gk v8 wr => ∃ k : Nat, k + gk = L.length ∧ v8 = .int .i64 k ∧ Aside0 (∀ x, x ∈ L.take k → p x = false) ∧ Aside0 (Below w.heap.size w wr))
  case atStart => exact ⟨0, by omega, rfl, ⟨by simp⟩, ⟨Below.refl _ _⟩⟩
  case round =>
    obtain ⟨k, hk, rfl, hp, hb⟩ := hrel
    have HK := Aside0.mk hk
    by_cases hlt : k < L.length
    · obtain ⟨ad, x, rfl, hbk, hx⟩ := at_int' (Kd.C_below HL.out hb.out) k (by omega)
      clear hk
      go_wp2_with (refine (HF.out _ hb.out _ (mem_of hbk.out)).mono ?_; rintro _ w1 ⟨rfl, hb1⟩)
      · rename_i hpb
        go_ret
        exact ⟨ret_int (idxF_hit hp.out hbk.out hpb).symm, bstep hb.out hb1⟩
      · rename_i hpb
        go_roundg (gk - 1)
        case measure => have := HK.out; omega
        case rel => exact ⟨k + 1, by have := HK.out; omega, by go_num, ⟨fun y hy => by rw [take_snoc hbk.out] at hy; rcases List.mem_append.1 hy with hy | hy; exact hp.out y hy; rw [List.mem_singleton.1 hy]; exact hpb⟩, ⟨bstep hb.out hb1⟩⟩
    · clear hk
      go_wp2
      go_ret
      refine ⟨ret_int (idxF_none ?_).symm, hb.out⟩
      have hp1 := hp.out
      rw [List.take_of_length_le (by omega)] at hp1
      exact hp1


theorem containsFuncBy_c (A : Option Addr) (c : Nat) (L : List Int) (f : FuncId) (cap : Array Value) (p : Int → Bool) (w : World)
    (hL : (Kd.int .u8).C w A L.length L) (hfn : Fun Tryz.prog f)
    (hf : ∀ W, Below w.heap.size w W → ∀ x, x ∈ L → Calls Tryz.prog f (#[.int .u8 x] ++ cap) W (Ret W (.bool (p x)))) :
    Calls Tryz.prog 150 #[.slice A L.length c, .func (.func f) #[] cap] w (Ret w (.bool (L.any p))) := by
  have HI := Aside0.mk (indexFuncBy_c A c L f cap p w hL hfn hf)
  clear hL hfn hf
  go_enter Tryz.func150, Tryz.ntmps150
  go_wp2_with (go_at_call 180; refine HI.out.mono ?_; rintro _ w1 ⟨rfl, hb1⟩)
  all_goals (go_ret; exact ⟨ret_bool (idxF_any L p), hb1⟩)


theorem allCloBy_c (x : Int) (f : FuncId) (cap : Array Value) (g : Nat) (w : World) (r : Bool) (hc : w.cell? ⟨g, 0, none⟩ = some (.func (.func f) #[] cap)) (hg : g < w.heap.size)
    (hf : ∀ W, Below w.heap.size w W → Calls Tryz.prog f (#[.int .u8 x] ++ cap) W (Ret W (.bool r))) (hfn : Fun Tryz.prog f) :
    Calls Tryz.prog 151 #[.int .u8 x, .pointer (some ⟨g, 0, none⟩)] w (Ret w (.bool (!r))) := by
  have hcf := hfn.run
  have HF := Aside0.mk hf
  have hca : ∀ o, (w.alloc o).cell? ⟨g, 0, none⟩ = some (.func (.func f) #[] cap) := fun o => (World.cell?_alloc_lt w o _ hg).trans hc
  clear hf hfn
  go_enter Tryz.func151, Tryz.ntmps151
  go_wp2_with (refine (HF.out _ (by first | exact Below.refl _ _ | exact balloc (Below.refl _ _) _)).mono ?_; rintro _ w1 ⟨rfl, hb1⟩)
  all_goals (go_ret; exact ⟨rfl, by first | exact hb1 | exact bstep (balloc (Below.refl _ _) _) hb1⟩)
theorem areAllBy_c (A : Option Addr) (c : Nat) (L : List Int) (f : FuncId) (cap : Array Value) (p : Int → Bool) (w : World)
    (hL : (Kd.int .u8).C w A L.length L) (hfn : Fun Tryz.prog f)
    (hf : ∀ W, Below w.heap.size w W → ∀ x, x ∈ L → Calls Tryz.prog f (#[.int .u8 x] ++ cap) W (Ret W (.bool (p x)))) :
    Calls Tryz.prog 94 #[.slice A L.length c, .func (.func f) #[] cap] w (Ret w (.bool (L.all p))) := by
  have hcl : ∀ W, Below (w.alloc (.cells #[.func (.func f) #[] cap] 110)).heap.size (w.alloc (.cells #[.func (.func f) #[] cap] 110)) W → ∀ x, x ∈ L →
      Calls Tryz.prog 151 (#[.int .u8 x] ++ #[.pointer (some ⟨w.heap.size, 0, none⟩)]) W (Ret W (.bool (!(p x)))) := fun W hW x hx => by
    have h0 : W.cell? ⟨w.heap.size, 0, none⟩ = some (.func (.func f) #[] cap) := by
      rw [hW.cell (by simp)]; exact (blk_cell (blk_new w _) 0).trans rfl
    have hbW : Below w.heap.size w W := bstep (balloc (Below.refl _ _) _) hW
    exact allCloBy_c x f cap w.heap.size W (p x) h0 (by have := hW.size; simp at this; omega) (fun W' hW' => hf W' (bstep hbW hW') x hx) hfn
  have HI := Aside0.mk (containsFuncBy_c A c L 151 #[.pointer (some ⟨w.heap.size, 0, none⟩)] (fun x => !(p x)) (w.alloc (.cells #[.func (.func f) #[] cap] 110)) (Kd.C_alloc hL _) ⟨_, Tryz.func151, rfl, rfl⟩ hcl)
  clear hL hfn hf hcl
  go_enter Tryz.func94, Tryz.ntmps94
  go_wp2_with (go_at_call 150; refine HI.out.mono ?_; rintro _ w1 ⟨rfl, hb1⟩)
  all_goals (go_ret; exact ⟨ret_bool (by rw [List.all_eq_not_any_not]), bstep (balloc (Below.refl _ _) _) hb1⟩)

end Go.Proofs.YtgibcacciedobaaGreatDoor
end
section
/- A book is valid: the program's ValidBook and the reference's. -/
namespace Go.Proofs.YtgibcacciedobaaGreatDoor
open Go.RowKit Go.Proofs.YtgibcacciedobaaGreatDoorW.PrintWords Go.Proofs.YtgibcacciedobaaGreatDoorW.PrintMore
set_option linter.unusedVariables false
set_option linter.unusedSimpArgs false
set_option maxRecDepth 100000

/-- A mark of three small letters. -/
def vMark (x y z : Int) : Bool := inR x 97 122 && (inR y 97 122 && inR z 97 122)
def vBook (b : Bk) : Bool := inR b.c 0 999 && (vMark b.m0 b.m1 b.m2 && (inR b.v 1 99 && (inR b.wd 1 100 && (inR b.h 50 400 && inR b.wt 1 9999))))

theorem within16_c (n lo hi : Int) (w : World) : Calls Tryz.prog 93 #[.int .i16 n, .int .i16 lo, .int .i16 hi] w (RetS w (.bool (inR n lo hi))) := by
  go_enter Tryz.func93, Tryz.ntmps93
  go_wp2
  all_goals (go_ret; refine ⟨ret_bool ?_, rfl⟩; unfold inR; rw [Bool.eq_iff_iff]; simp; omega)
theorem l00In_c (n lo hi : Int) (w : World) : Calls Tryz.prog 144 #[.int .i64 n, .int .i64 lo, .int .i64 hi] w (RetS w (.bool (inR n lo hi))) := by
  go_enter Tryz.func144, Tryz.ntmps144
  go_wp2
  all_goals (go_ret; refine ⟨ret_bool ?_, rfl⟩; unfold inR; rw [Bool.eq_iff_iff]; simp; omega)
theorem isSmall_c (n : Int) (w : World) : Calls Tryz.prog 95 #[.int .u8 n] w (RetS w (.bool (inR n 97 122))) := by
  go_enter Tryz.func95, Tryz.ntmps95
  go_wp2
  all_goals (go_ret; refine ⟨ret_bool ?_, rfl⟩; unfold inR; rw [Bool.eq_iff_iff]; simp; omega)
theorem l01Class_c (n : Int) (w : World) : Calls Tryz.prog 142 #[.int .i64 n] w (RetS w (.bool (inR n 0 999))) := by
  go_enter Tryz.func142, Tryz.ntmps142
  go_wp2_with (go_at_call 144; refine (l00In_c _ _ _ _).mono ?_; rintro _ w1 ⟨rfl, rfl⟩)
  all_goals (go_ret; exact ⟨rfl, rfl⟩)

/-- The three bytes of an array that lies in a block read as a slice. -/
theorem marks_C (W : World) (g o : Nat) (x y z : Int) (h0 : W.cell? ⟨g, o, none⟩ = some (.int .u8 x)) (h1 : W.cell? ⟨g, o + 1, none⟩ = some (.int .u8 y)) (h2 : W.cell? ⟨g, o + 2, none⟩ = some (.int .u8 z)) :
    (Kd.int .u8).C W (some ⟨g, o, none⟩) [x, y, z].length [x, y, z] := by
  refine ⟨rfl, by simp, fun _ => ⟨_, rfl, fun j p hj => ?_⟩⟩
  match j, hj with
  | 0, hj => cases hj; exact ⟨_, rfl, rfl, fun i u hu => by match i, hu with | 0, hu => cases hu; simpa [Addr.add] using h0⟩
  | 1, hj => cases hj; exact ⟨_, rfl, rfl, fun i u hu => by match i, hu with | 0, hu => cases hu; simpa [Addr.add, Kd.int, Kd.scalar] using h1⟩
  | 2, hj => cases hj; exact ⟨_, rfl, rfl, fun i u hu => by match i, hu with | 0, hu => cases hu; simpa [Addr.add, Kd.int, Kd.scalar] using h2⟩

theorem markAll (x y z : Int) : [x, y, z].all (fun c => inR c 97 122) = vMark x y z := by simp [vMark]

set_option maxHeartbeats 1000000 in
theorem ValidBook_c (b : Bk) (w : World) : Calls Tryz.prog 25 #[b.val] w (Ret w (.bool (vBook b))) := by
  have hC := marks_C (w.alloc (.cells #[.int .i16 b.c, .int .u8 b.m0, .int .u8 b.m1, .int .u8 b.m2, .int .i16 b.v, .int .i16 b.wd, .int .i16 b.h, .int .i16 b.wt] 30)) w.heap.size 1 b.m0 b.m1 b.m2
    ((blk_cell (blk_new w _) 1).trans rfl) ((blk_cell (blk_new w _) 2).trans rfl) ((blk_cell (blk_new w _) 3).trans rfl)
  have HA := Aside0.mk (areAllBy_c _ 3 _ 95 #[] (fun c => inR c 97 122) _ hC ⟨_, Tryz.func95, rfl, rfl⟩ (fun W hW x hx => (isSmall_c x W).mono fun e w' h => h.ret))
  rw [markAll] at HA
  clear hC
  simp only [Bk.val]
  cases h1 : inR b.c 0 999
  · have HV := Aside0.mk (show vBook b = false by simp [vBook, h1])
    go_enter Tryz.func25, Tryz.ntmps25
    go_wp2_with (first | (go_at_call 93; refine (within16_c _ _ _ _).mono ?_; rintro _ w1 ⟨rfl, rfl⟩) | (go_at_call 94; refine HA.out.mono ?_; rintro _ w1 ⟨rfl, hb1⟩; have HB1 := Aside0.mk hb1; obtain ⟨hc1, hf1⟩ := bcell hb1; clear hb1))
    all_goals (go_ret; exact ⟨ret_bool HV.out.symm, balloc (Below.refl _ _) _⟩)
  · cases h2 : vMark b.m0 b.m1 b.m2
    · rw [h2] at HA
      have HV := Aside0.mk (show vBook b = false by simp [vBook, h1, h2])
      go_enter Tryz.func25, Tryz.ntmps25
      go_wp2_with (first | (go_at_call 93; refine (within16_c _ _ _ _).mono ?_; rintro _ w1 ⟨rfl, rfl⟩) | (go_at_call 94; refine HA.out.mono ?_; rintro _ w1 ⟨rfl, hb1⟩; have HB1 := Aside0.mk hb1; obtain ⟨hc1, hf1⟩ := bcell hb1; clear hb1))
      all_goals (go_ret; exact ⟨ret_bool HV.out.symm, bstep (balloc (Below.refl _ _) _) HB1.out⟩)
    · rw [h2] at HA
      cases h3 : inR b.v 1 99
      · have HV := Aside0.mk (show vBook b = false by simp [vBook, h1, h2, h3])
        go_enter Tryz.func25, Tryz.ntmps25
        go_wp2_with (first | (go_at_call 93; refine (within16_c _ _ _ _).mono ?_; rintro _ w1 ⟨rfl, rfl⟩) | (go_at_call 94; refine HA.out.mono ?_; rintro _ w1 ⟨rfl, hb1⟩; have HB1 := Aside0.mk hb1; obtain ⟨hc1, hf1⟩ := bcell hb1; clear hb1))
        all_goals (go_ret; exact ⟨ret_bool HV.out.symm, bstep (balloc (Below.refl _ _) _) HB1.out⟩)
      · cases h4 : inR b.wd 1 100
        · have HV := Aside0.mk (show vBook b = false by simp [vBook, h1, h2, h3, h4])
          go_enter Tryz.func25, Tryz.ntmps25
          go_wp2_with (first | (go_at_call 93; refine (within16_c _ _ _ _).mono ?_; rintro _ w1 ⟨rfl, rfl⟩) | (go_at_call 94; refine HA.out.mono ?_; rintro _ w1 ⟨rfl, hb1⟩; have HB1 := Aside0.mk hb1; obtain ⟨hc1, hf1⟩ := bcell hb1; clear hb1))
          all_goals (go_ret; exact ⟨ret_bool HV.out.symm, bstep (balloc (Below.refl _ _) _) HB1.out⟩)
        · cases h5 : inR b.h 50 400
          · have HV := Aside0.mk (show vBook b = false by simp [vBook, h1, h2, h3, h4, h5])
            go_enter Tryz.func25, Tryz.ntmps25
            go_wp2_with (first | (go_at_call 93; refine (within16_c _ _ _ _).mono ?_; rintro _ w1 ⟨rfl, rfl⟩) | (go_at_call 94; refine HA.out.mono ?_; rintro _ w1 ⟨rfl, hb1⟩; have HB1 := Aside0.mk hb1; obtain ⟨hc1, hf1⟩ := bcell hb1; clear hb1))
            all_goals (go_ret; exact ⟨ret_bool HV.out.symm, bstep (balloc (Below.refl _ _) _) HB1.out⟩)
          · cases h6 : inR b.wt 1 9999
            · have HV := Aside0.mk (show vBook b = false by simp [vBook, h1, h2, h3, h4, h5, h6])
              go_enter Tryz.func25, Tryz.ntmps25
              go_wp2_with (first | (go_at_call 93; refine (within16_c _ _ _ _).mono ?_; rintro _ w1 ⟨rfl, rfl⟩) | (go_at_call 94; refine HA.out.mono ?_; rintro _ w1 ⟨rfl, hb1⟩; have HB1 := Aside0.mk hb1; obtain ⟨hc1, hf1⟩ := bcell hb1; clear hb1))
              all_goals (go_ret; exact ⟨ret_bool HV.out.symm, bstep (balloc (Below.refl _ _) _) HB1.out⟩)
            · have HV := Aside0.mk (show vBook b = true by simp [vBook, h1, h2, h3, h4, h5, h6])
              go_enter Tryz.func25, Tryz.ntmps25
              go_wp2_with (first | (go_at_call 93; refine (within16_c _ _ _ _).mono ?_; rintro _ w1 ⟨rfl, rfl⟩) | (go_at_call 94; refine HA.out.mono ?_; rintro _ w1 ⟨rfl, hb1⟩; have HB1 := Aside0.mk hb1; obtain ⟨hc1, hf1⟩ := bcell hb1; clear hb1))
              all_goals (go_ret; exact ⟨ret_bool HV.out.symm, bstep (balloc (Below.refl _ _) _) HB1.out⟩)
end Go.Proofs.YtgibcacciedobaaGreatDoor
end
section
/- Lists of numbers: alike, and whether one has a number; whether bytes are too many. -/
namespace Go.Proofs.YtgibcacciedobaaGreatDoor
open Go.RowKit Go.Proofs.YtgibcacciedobaaGreatDoorW.PrintWords Go.Proofs.YtgibcacciedobaaGreatDoorW.PrintMore
set_option linter.unusedVariables false
set_option linter.unusedSimpArgs false
set_option maxRecDepth 100000

set_option maxHeartbeats 2000000 in
theorem l00Same_c (A A' : Option Addr) (c c' : Nat) (L L' : List Int) (w : World) (hL : (Kd.int .i64).C w A L.length L) (hL' : (Kd.int .i64).C w A' L'.length L') : Calls Tryz.prog 112 #[.slice A L.length c, .slice A' L'.length c'] w (Ret w (.bool (decide (L = L')))) := by
  have hm := Kd.C_max hL
  have hm' := Kd.C_max hL'
  have HL := Aside0.mk hL
  have HL' := Aside0.mk hL'
  clear hL hL'
  by_cases hll : L.length = L'.length
  · have HLL := Aside0.mk hll
    have hb0 : ((L.length : Int) != (L'.length : Int)) = false := by simp [hll]
    have hb0' : (L.length != L'.length) = false := by simp [hll]
    clear hll
    go_enter Tryz.func112, Tryz.ntmps112
    go_wp2
    go_loopg [5] L.length (fun gk v wr => ∃ k : Nat, k + gk = L.length ∧ v = .int .i64 k ∧ Aside0 (L.take k = L'.take k) ∧ Aside0 (Below w.heap.size w wr))
    case atStart => exact ⟨0, by omega, rfl, ⟨by simp⟩, ⟨Below.refl _ _⟩⟩
    case round =>
      clear hb0 hb0'
      obtain ⟨k, hk, rfl, hp, hb⟩ := hrel
      have HK := Aside0.mk hk
      by_cases hlt : k < L.length
      · have hlt' : k < L'.length := by have := HLL.out; omega
        obtain ⟨ad, x, rfl, hbk, x0⟩ := at_int' (Kd.C_below HL.out hb.out) k (by omega)
        obtain ⟨ad', y, rfl, hbk', y0⟩ := at_int' (Kd.C_below HL'.out hb.out) k (by omega)
        clear hk
        have i0 : (0 : Int) ≤ (k : Int) := by omega
        have i1 : (k : Int) < (L.length : Int) := by omega
        have i2 : (k : Int) < (L'.length : Int) := by omega
        by_cases hxy : x = y
        · have HN := Aside0.mk (show L.take (k + 1) = L'.take (k + 1) by rw [take_snoc hbk.out, take_snoc hbk'.out, hp.out, hxy])
          have hd : (x != y) = false := by simp [hxy]
          clear hxy
          go_wp2_with fail
          go_quiet (fail)
          go_wp2
          go_roundg (gk - 1)
          case measure => have := HK.out; omega
          case rel => exact ⟨k + 1, by have := HK.out; omega, by go_num, HN, ⟨bdrewN hb.out _⟩⟩
        · have HN := Aside0.mk (show L ≠ L' from fun h => hxy (by have h1 := hbk.out; rw [h, hbk'.out] at h1; injection h1 with h1; exact h1.symm))
          have hd : (x != y) = true := by simpa using hxy
          clear hxy
          go_wp2_with fail
          go_quiet (fail)
          go_wp2
          go_ret
          exact ⟨ret_bool (decide_eq_false HN.out).symm, bdrewN hb.out _⟩
      · have HE := Aside0.mk (show L = L' by have h1 := hp.out; have h2 := HLL.out; rwa [List.take_of_length_le (by omega), List.take_of_length_le (by omega)] at h1)
        clear hk
        go_wp2
        go_ret
        exact ⟨ret_bool (decide_eq_true HE.out).symm, hb.out⟩
  · have hb0 : ((L.length : Int) != (L'.length : Int)) = true := by simp; omega
    have hb0' : (L.length != L'.length) = true := by simpa using hll
    have HN := Aside0.mk (show L ≠ L' from fun h => hll (by rw [h]))
    clear hll
    go_enter Tryz.func112, Tryz.ntmps112
    go_wp2
    all_goals (go_ret; exact ⟨ret_bool (decide_eq_false HN.out).symm, Below.refl _ _⟩)
theorem A2Same_c (A A' : Option Addr) (c c' : Nat) (L L' : List Int) (w : World) (hL : (Kd.int .i64).C w A L.length L) (hL' : (Kd.int .i64).C w A' L'.length L') :
    Calls Tryz.prog 55 #[.slice A L.length c, .slice A' L'.length c'] w (Ret w (.bool (decide (L = L')))) := by
  have HS := Aside0.mk (l00Same_c A A' c c' L L' w hL hL')
  generalize decide (L = L') = b at HS ⊢
  clear hL hL'
  go_enter Tryz.func55, Tryz.ntmps55
  go_wp2_with fail
  refine HS.out.mono ?_; rintro _ w1 ⟨rfl, hb⟩
  have HB := Aside0.mk hb
  clear hb
  go_wp2
  go_ret
  exact ⟨rfl, HB.out⟩
set_option maxHeartbeats 1000000 in
theorem SameNumbers_c (A A' : Option Addr) (c c' : Nat) (L L' : List Int) (w : World) (hL : (Kd.int .i64).C w A L.length L) (hL' : (Kd.int .i64).C w A' L'.length L') :
    Calls Tryz.prog 43 #[.slice A L.length c, .slice A' L'.length c'] w (Ret w (.bool (decide (L = L')))) := by
  have HS := Aside0.mk (l00Same_c A A' c c' L L' w hL hL')
  generalize decide (L = L') = b at HS ⊢
  clear hL hL'
  go_enter Tryz.func43, Tryz.ntmps43
  go_wp2_with fail
  refine HS.out.mono ?_; rintro _ w1 ⟨rfl, hb⟩
  have HB := Aside0.mk hb
  clear hb
  go_wp2
  go_ret
  exact ⟨rfl, HB.out⟩
set_option maxHeartbeats 2000000 in
theorem l00Has_c (A : Option Addr) (c : Nat) (L : List Int) (n : Int) (w : World) (hL : (Kd.int .i64).C w A L.length L) : Calls Tryz.prog 113 #[.slice A L.length c, .int .i64 n] w (Ret w (.bool (decide (n ∈ L)))) := by
  have hm := Kd.C_max hL
  have HL := Aside0.mk hL
  clear hL
  go_enter Tryz.func113, Tryz.ntmps113
  go_wp2
  go_loopg [5] L.length (fun gk v wr => ∃ k : Nat, k + gk = L.length ∧ v = .int .i64 k ∧ Aside0 (n ∉ L.take k) ∧ Aside0 (Below w.heap.size w wr))
  case atStart => exact ⟨0, by omega, rfl, ⟨by simp⟩, ⟨Below.refl _ _⟩⟩
  case round =>
    obtain ⟨k, hk, rfl, hp, hb⟩ := hrel
    have HK := Aside0.mk hk
    by_cases hlt : k < L.length
    · obtain ⟨ad, x, rfl, hbk, x0⟩ := at_int' (Kd.C_below HL.out hb.out) k (by omega)
      clear hk
      have i0 : (0 : Int) ≤ (k : Int) := by omega
      have i1 : (k : Int) < (L.length : Int) := by omega
      by_cases hxy : x = n
      · have HN := Aside0.mk (show n ∈ L by rw [← hxy]; exact List.mem_of_getElem? hbk.out)
        have hd : (x == n) = true := by simp [hxy]
        clear hxy
        go_wp2
        go_ret
        exact ⟨ret_bool (decide_eq_true HN.out).symm, hb.out⟩
      · have HN := Aside0.mk (show n ∉ L.take (k + 1) by rw [take_snoc hbk.out]; intro h; rcases List.mem_append.1 h with h | h; exact hp.out h; exact hxy (List.mem_singleton.1 h).symm)
        have hd : (x == n) = false := by simpa using hxy
        clear hxy
        go_wp2
        go_roundg (gk - 1)
        case measure => have := HK.out; omega
        case rel => exact ⟨k + 1, by have := HK.out; omega, by go_num, HN, hb⟩
    · have HE := Aside0.mk (show n ∉ L by have h1 := hp.out; rwa [List.take_of_length_le (by omega)] at h1)
      clear hk
      go_wp2
      go_ret
      exact ⟨ret_bool (decide_eq_false HE.out).symm, hb.out⟩
set_option maxHeartbeats 1000000 in
theorem HasNumber_c (A : Option Addr) (c : Nat) (L : List Int) (n : Int) (w : World) (hL : (Kd.int .i64).C w A L.length L) : Calls Tryz.prog 44 #[.slice A L.length c, .int .i64 n] w (Ret w (.bool (decide (n ∈ L)))) := by
  have HS := Aside0.mk (l00Has_c A c L n w hL)
  generalize decide (n ∈ L) = b at HS ⊢
  clear hL
  go_enter Tryz.func44, Tryz.ntmps44
  go_wp2_with fail
  refine HS.out.mono ?_; rintro _ w1 ⟨rfl, hb⟩
  have HB := Aside0.mk hb
  clear hb
  go_wp2
  go_ret
  exact ⟨rfl, HB.out⟩
theorem f6big_c (A : Option Addr) (n c : Nat) (hn : n ≤ 9223372036854775807) (w : World) : Calls Tryz.prog 6 #[.slice A n c] w (RetS w (.bool (decide (4096 < n)))) := by
  have hw : wrap64 (n : Int) = n := by unfold wrap64; omega
  by_cases h : 4096 < n
  · have hi : (4096 : Int) < (n : Int) := by omega
    have HD := Aside0.mk (decide_eq_true h)
    clear h
    go_enter Tryz.func6, Tryz.ntmps6
    go_wp2
    go_ret
    exact ⟨ret_bool HD.out.symm, rfl⟩
  · have hi : ¬ (4096 : Int) < (n : Int) := by omega
    have HD := Aside0.mk (decide_eq_false h)
    clear h
    go_enter Tryz.func6, Tryz.ntmps6
    go_wp2
    go_ret
    exact ⟨ret_bool HD.out.symm, rfl⟩
end Go.Proofs.YtgibcacciedobaaGreatDoor
end
section
/- The reference's ValidBook. -/
namespace Go.Proofs.YtgibcacciedobaaGreatDoor
open Go.RowKit Go.Proofs.YtgibcacciedobaaGreatDoorW.PrintWords Go.Proofs.YtgibcacciedobaaGreatDoorW.PrintMore
set_option linter.unusedVariables false
set_option linter.unusedSimpArgs false
set_option maxRecDepth 100000

theorem vm0 {x y z : Int} (h : x < 97 ∨ 122 < x) : false = vMark x y z := by simp [vMark, inR]; omega
theorem vm1 {x y z : Int} (h : y < 97 ∨ 122 < y) : false = vMark x y z := by simp [vMark, inR]; omega
theorem vm2 {x y z : Int} (h : z < 97 ∨ 122 < z) : false = vMark x y z := by simp [vMark, inR]; omega
theorem vm3 {x y z : Int} (hx : 97 ≤ x ∧ x ≤ 122) (hy : 97 ≤ y ∧ y ≤ 122) (hz : 97 ≤ z ∧ z ≤ 122) : true = vMark x y z := by simp [vMark, inR]; omega
set_option maxHeartbeats 1000000 in
theorem l01Mark_c (x y z : Int) (w : World) : Calls Tryz.prog 143 #[.agg #[.int .u8 x, .int .u8 y, .int .u8 z]] w (Ret w (.bool (vMark x y z))) := by
  go_enter Tryz.func143, Tryz.ntmps143
  go_wp2
  go_loop [3] (fun v => ∃ k : Nat, k ≤ 3 ∧ v = .int .i64 k ∧ Aside0 ((0 < k → 97 ≤ x ∧ x ≤ 122) ∧ (1 < k → 97 ≤ y ∧ y ≤ 122) ∧ (2 < k → 97 ≤ z ∧ z ≤ 122))) (fun v => 3 - (intOf v).toNat)
  case atStart => exact ⟨0, by omega, rfl, ⟨by omega, by omega, by omega⟩⟩
  case round =>
    obtain ⟨k, hk, rfl, hp⟩ := hrel
    have hk' : k = 0 ∨ k = 1 ∨ k = 2 ∨ k = 3 := by omega
    clear hk
    rcases hk' with rfl | rfl | rfl | rfl
    · go_wp2
      all_goals first
        | (go_ret; exact ⟨ret_bool (vm0 (by omega)), balloc (Below.refl _ _) _⟩)
        | (go_round; (case rel => exact ⟨1, by omega, rfl, ⟨by omega, by omega, by omega⟩⟩); (case measure => simp [intOf]))
    · go_wp2
      all_goals first
        | (go_ret; exact ⟨ret_bool (vm1 (by omega)), balloc (Below.refl _ _) _⟩)
        | (have hp := hp.out; go_round; (case rel => exact ⟨2, by omega, rfl, ⟨by omega, by omega, by omega⟩⟩); (case measure => simp [intOf]))
    · go_wp2
      all_goals first
        | (go_ret; exact ⟨ret_bool (vm2 (by omega)), balloc (Below.refl _ _) _⟩)
        | (have hp := hp.out; go_round; (case rel => exact ⟨3, by omega, rfl, ⟨by omega, by omega, by omega⟩⟩); (case measure => simp [intOf]))
    · go_wp2
      have hp := hp.out
      go_ret
      exact ⟨ret_bool (vm3 (by omega) (by omega) (by omega)), balloc (Below.refl _ _) _⟩

set_option maxHeartbeats 1000000 in
theorem l01Book_c (b : Bk) (hok : b.ok) (a : Addr) (w : World) (ha : BkAt w a b) : Calls Tryz.prog 75 #[.pointer (some a)] w (Ret w (.bool (vBook b))) := by
  obtain ⟨⟨i0, i0'⟩, ⟨i1, i1'⟩, ⟨i2, i2'⟩, ⟨i3, i3'⟩, ⟨i4, i4'⟩, ⟨i5, i5'⟩, ⟨i6, i6'⟩, i7, i7'⟩ := hok
  have HA := Aside0.mk ha
  obtain ⟨x0, x1, x2, x3, x4, x5, x6, x7⟩ := ha
  cases h1 : inR b.c 0 999
  · have HV := Aside0.mk (show vBook b = false by simp [vBook, h1])
    go_enter Tryz.func75, Tryz.ntmps75
    go_wp2_with (first | (go_at_call 142; refine (l01Class_c _ _).mono ?_; rintro _ w1 ⟨rfl, rfl⟩) | (go_at_call 144; refine (l00In_c _ _ _ _).mono ?_; rintro _ w1 ⟨rfl, rfl⟩) | (go_at_call 143; refine (l01Mark_c _ _ _ _).mono ?_; rintro _ w1 ⟨rfl, hb1⟩; have HB1 := Aside0.mk hb1; obtain ⟨y0, y1, y2, y3, y4, y5, y6, y7⟩ := HA.out.below hb1; clear hb1))
    all_goals (go_ret; exact ⟨ret_bool HV.out.symm, Below.refl _ _⟩)
  · cases h2 : vMark b.m0 b.m1 b.m2
    · have HV := Aside0.mk (show vBook b = false by simp [vBook, h1, h2])
      go_enter Tryz.func75, Tryz.ntmps75
      go_wp2_with (first | (go_at_call 142; refine (l01Class_c _ _).mono ?_; rintro _ w1 ⟨rfl, rfl⟩) | (go_at_call 144; refine (l00In_c _ _ _ _).mono ?_; rintro _ w1 ⟨rfl, rfl⟩) | (go_at_call 143; refine (l01Mark_c _ _ _ _).mono ?_; rintro _ w1 ⟨rfl, hb1⟩; have HB1 := Aside0.mk hb1; obtain ⟨y0, y1, y2, y3, y4, y5, y6, y7⟩ := HA.out.below hb1; clear hb1))
      all_goals (go_ret; exact ⟨ret_bool HV.out.symm, HB1.out⟩)
    · cases h3 : inR b.v 1 99
      · have HV := Aside0.mk (show vBook b = false by simp [vBook, h1, h2, h3])
        go_enter Tryz.func75, Tryz.ntmps75
        go_wp2_with (first | (go_at_call 142; refine (l01Class_c _ _).mono ?_; rintro _ w1 ⟨rfl, rfl⟩) | (go_at_call 144; refine (l00In_c _ _ _ _).mono ?_; rintro _ w1 ⟨rfl, rfl⟩) | (go_at_call 143; refine (l01Mark_c _ _ _ _).mono ?_; rintro _ w1 ⟨rfl, hb1⟩; have HB1 := Aside0.mk hb1; obtain ⟨y0, y1, y2, y3, y4, y5, y6, y7⟩ := HA.out.below hb1; clear hb1))
        all_goals (go_ret; exact ⟨ret_bool HV.out.symm, HB1.out⟩)
      · cases h4 : inR b.wd 1 100
        · have HV := Aside0.mk (show vBook b = false by simp [vBook, h1, h2, h3, h4])
          go_enter Tryz.func75, Tryz.ntmps75
          go_wp2_with (first | (go_at_call 142; refine (l01Class_c _ _).mono ?_; rintro _ w1 ⟨rfl, rfl⟩) | (go_at_call 144; refine (l00In_c _ _ _ _).mono ?_; rintro _ w1 ⟨rfl, rfl⟩) | (go_at_call 143; refine (l01Mark_c _ _ _ _).mono ?_; rintro _ w1 ⟨rfl, hb1⟩; have HB1 := Aside0.mk hb1; obtain ⟨y0, y1, y2, y3, y4, y5, y6, y7⟩ := HA.out.below hb1; clear hb1))
          all_goals (go_ret; exact ⟨ret_bool HV.out.symm, HB1.out⟩)
        · cases h5 : inR b.h 50 400
          · have HV := Aside0.mk (show vBook b = false by simp [vBook, h1, h2, h3, h4, h5])
            go_enter Tryz.func75, Tryz.ntmps75
            go_wp2_with (first | (go_at_call 142; refine (l01Class_c _ _).mono ?_; rintro _ w1 ⟨rfl, rfl⟩) | (go_at_call 144; refine (l00In_c _ _ _ _).mono ?_; rintro _ w1 ⟨rfl, rfl⟩) | (go_at_call 143; refine (l01Mark_c _ _ _ _).mono ?_; rintro _ w1 ⟨rfl, hb1⟩; have HB1 := Aside0.mk hb1; obtain ⟨y0, y1, y2, y3, y4, y5, y6, y7⟩ := HA.out.below hb1; clear hb1))
            all_goals (go_ret; exact ⟨ret_bool HV.out.symm, HB1.out⟩)
          · cases h6 : inR b.wt 1 9999
            · have HV := Aside0.mk (show vBook b = false by simp [vBook, h1, h2, h3, h4, h5, h6])
              go_enter Tryz.func75, Tryz.ntmps75
              go_wp2_with (first | (go_at_call 142; refine (l01Class_c _ _).mono ?_; rintro _ w1 ⟨rfl, rfl⟩) | (go_at_call 144; refine (l00In_c _ _ _ _).mono ?_; rintro _ w1 ⟨rfl, rfl⟩) | (go_at_call 143; refine (l01Mark_c _ _ _ _).mono ?_; rintro _ w1 ⟨rfl, hb1⟩; have HB1 := Aside0.mk hb1; obtain ⟨y0, y1, y2, y3, y4, y5, y6, y7⟩ := HA.out.below hb1; clear hb1))
              all_goals (go_ret; exact ⟨ret_bool HV.out.symm, HB1.out⟩)
            · have HV := Aside0.mk (show vBook b = true by simp [vBook, h1, h2, h3, h4, h5, h6])
              go_enter Tryz.func75, Tryz.ntmps75
              go_wp2_with (first | (go_at_call 142; refine (l01Class_c _ _).mono ?_; rintro _ w1 ⟨rfl, rfl⟩) | (go_at_call 144; refine (l00In_c _ _ _ _).mono ?_; rintro _ w1 ⟨rfl, rfl⟩) | (go_at_call 143; refine (l01Mark_c _ _ _ _).mono ?_; rintro _ w1 ⟨rfl, hb1⟩; have HB1 := Aside0.mk hb1; obtain ⟨y0, y1, y2, y3, y4, y5, y6, y7⟩ := HA.out.below hb1; clear hb1))
              all_goals (go_ret; exact ⟨ret_bool HV.out.symm, HB1.out⟩)
end Go.Proofs.YtgibcacciedobaaGreatDoor
end
section
/- A list of books is valid: the program's ValidBooks and the reference's. -/
namespace Go.Proofs.YtgibcacciedobaaGreatDoor
open Go.RowKit Go.Proofs.YtgibcacciedobaaGreatDoorW.PrintWords Go.Proofs.YtgibcacciedobaaGreatDoorW.PrintMore
set_option linter.unusedVariables false
set_option linter.unusedSimpArgs false
set_option maxRecDepth 100000

def vBooks (L : List Bk) : Bool := decide (L.length ≤ 60) && L.all vBook
def OkL (L : List Bk) : Prop := ∀ b, b ∈ L → b.ok
theorem ValidBooks_c (A : Option Addr) (c : Nat) (L : List Bk) (w : World) (hL : kBk.C w A L.length L) :
    Calls Tryz.prog 34 #[.slice A L.length c] w (Ret w (.bool (vBooks L))) := by
  have HA := Aside0.mk (areAllBk_c A c L 25 #[] vBook w hL ⟨_, Tryz.func25, rfl, rfl⟩ (fun W _ x _ => ValidBook_c x W))
  have hm := Kd.C_max hL
  clear hL
  by_cases h : L.length ≤ 60
  · have HV := Aside0.mk (show vBooks L = L.all vBook by simp [vBooks, h])
    go_enter Tryz.func34, Tryz.ntmps34
    go_wp2_with (go_at_call 106; refine HA.out.mono ?_; rintro _ w1 ⟨rfl, hb1⟩)
    all_goals (go_ret; exact ⟨ret_bool HV.out.symm, hb1⟩)
  · have HV := Aside0.mk (show vBooks L = false by simp [vBooks, h])
    go_enter Tryz.func34, Tryz.ntmps34
    go_wp2
    all_goals (go_ret; exact ⟨ret_bool HV.out.symm, Below.refl _ _⟩)

theorem all_hit {α : Type} {L : List α} {p : α → Bool} {k : Nat} {x : α} (hx : L[k]? = some x) (hp : p x = false) : L.all p = false := by
  rw [Bool.eq_false_iff]
  intro h
  have h2 := List.all_eq_true.1 h x (mem_of hx)
  rw [hp] at h2
  cases h2
theorem all_end {α : Type} {L : List α} {p : α → Bool} {k : Nat} (h : ∀ x, x ∈ L.take k → p x = true) (hk : L.length ≤ k) : L.all p = true := by
  rw [List.take_of_length_le hk] at h
  exact List.all_eq_true.2 h
theorem all_next {α : Type} {L : List α} {p : α → Bool} {k : Nat} {x : α} (h : ∀ x, x ∈ L.take k → p x = true) (hx : L[k]? = some x) (hp : p x = true) : ∀ x, x ∈ L.take (k + 1) → p x = true := by
  intro y hy
  rw [take_snoc hx] at hy
  rcases List.mem_append.1 hy with hy | hy
  · exact h y hy
  · rw [List.mem_singleton.1 hy]; exact hp

theorem l01Ok_c (A : Option Addr) (c : Nat) (L : List Bk) (hok : OkL L) (w : World) (hL : kBk.C w A L.length L) :
    Calls Tryz.prog 76 #[.slice A L.length c] w (Ret w (.bool (vBooks L))) := by
  have hm := Kd.C_max hL
  have HL := Aside0.mk hL
  have HO := Aside0.mk hok
  clear hL hok
  go_enter Tryz.func76, Tryz.ntmps76
  go_wp2
  go_loopg [3] L.length (fun gk v wr => ∃ k : Nat, k + gk = L.length ∧ v = .int .i64 k ∧ Aside0 (∀ x, x ∈ L.take k → vBook x = true) ∧ Aside0 (Below w.heap.size w wr))
  case atStart => exact ⟨0, by omega, rfl, ⟨by simp⟩, ⟨Below.refl _ _⟩⟩
  case round =>
    obtain ⟨k, hk, rfl, hp, hb⟩ := hrel
    have HK := Aside0.mk hk
    by_cases hlt : k < L.length
    · obtain ⟨ad, b, rfl, hbk, ha⟩ := at_bk' (Kd.C_below HL.out hb.out) k (by omega)
      have HA := Aside0.mk (l01Book_c b (HO.out b (mem_of hbk.out)) _ _ ha)
      clear hk ha
      cases hvb : vBook b
      · have HV := Aside0.mk (all_hit hbk.out hvb)
        rw [hvb] at HA
        clear hvb
        go_wp2_with (go_at_call 75; refine HA.out.mono ?_; rintro _ w1 ⟨rfl, hb1⟩)
        all_goals (go_ret; exact ⟨ret_bool (by simp [vBooks, HV.out]), bstep hb.out hb1⟩)
      · have HV := Aside0.mk (all_next hp.out hbk.out hvb)
        rw [hvb] at HA
        clear hvb
        go_wp2_with (go_at_call 75; refine HA.out.mono ?_; rintro _ w1 ⟨rfl, hb1⟩)
        go_roundg (gk - 1)
        case measure => have := HK.out; omega
        case rel => exact ⟨k + 1, by have := HK.out; omega, by go_num, HV, ⟨bstep hb.out hb1⟩⟩
    · have HV := Aside0.mk (all_end hp.out (by omega))
      clear hk
      go_wp2
      all_goals (go_ret; exact ⟨ret_bool (by simp [vBooks, HV.out]; omega), hb.out⟩)
theorem vBooks_len {L : List Bk} (h : vBooks L = true) : L.length ≤ 60 := by
  unfold vBooks at h
  simp only [Bool.and_eq_true, decide_eq_true_eq] at h
  exact h.1
theorem ret_two {a b c d : Int} (h : a = c) (k : b = d) : Ending.returned (.tuple #[.int .i64 a, .int .i64 b]) = .returned (.tuple #[.int .i64 c, .int .i64 d]) := by rw [h, k]
theorem ret_three {a b c d e f : Int} (h : a = d) (k : b = e) (l : c = f) : Ending.returned (.tuple #[.int .i64 a, .int .i64 b, .int .i64 c]) = .returned (.tuple #[.int .i64 d, .int .i64 e, .int .i64 f]) := by rw [h, k, l]
end Go.Proofs.YtgibcacciedobaaGreatDoor
end
section
/- The totals of a row of books: the program's totals. -/
namespace Go.Proofs.YtgibcacciedobaaGreatDoor
open Go.RowKit Go.Proofs.YtgibcacciedobaaGreatDoorW.PrintWords Go.Proofs.YtgibcacciedobaaGreatDoorW.PrintMore
set_option linter.unusedVariables false
set_option linter.unusedSimpArgs false
set_option maxRecDepth 100000

structure T3 where
  x : Int
  y : Int
  z : Int
def mx (x y : Int) : Int := if x < y then y else x
def T3.step (t : T3) (b : Bk) : T3 := ⟨wrap64 (t.x + b.wd), mx t.y b.h, wrap64 (t.z + b.wt)⟩
def T3.cells (t : T3) : Array Value := #[.int .i64 t.x, .int .i64 t.y, .int .i64 t.z]
def totL (L : List Bk) : T3 := L.foldl T3.step ⟨0, 0, 0⟩
theorem totL_next {L : List Bk} {k : Nat} {b : Bk} (h : L[k]? = some b) : totL (L.take (k + 1)) = (totL (L.take k)).step b := by
  unfold totL
  rw [take_snoc h, List.foldl_append]
  rfl
set_option maxHeartbeats 4000000 in
theorem totals_c (A : Option Addr) (c : Nat) (L : List Bk) (hok : ∀ b ∈ L, b.ok) (w : World) (hL : kBk.C w A L.length L) : Calls Tryz.prog 90 #[.slice A L.length c] w (Ret w (.agg (totL L).cells)) := by
  have hm := Kd.C_max hL
  have HL := Aside0.mk hL
  have HO := Aside0.mk hok
  clear hL hok
  go_enter Tryz.func90, Tryz.ntmps90
  go_wp2
  have hb1 := blk_alloc (blk_new w (.cells #[.int .i64 0, .int .i64 0, .int .i64 0] 45)) (.cells #[.int .i64 0, .int .i64 0, .int .i64 0] 45)
  have hb2 := blk_new (w.alloc (.cells #[.int .i64 0, .int .i64 0, .int .i64 0] 45)) (.cells #[.int .i64 0, .int .i64 0, .int .i64 0] 45)
  rw [World.size_alloc] at hb2
  have H1 := Aside0.mk hb1
  have H2 := Aside0.mk hb2
  have HB := Aside0.mk (balloc (balloc (Below.refl w.heap.size w) (.cells #[.int .i64 0, .int .i64 0, .int .i64 0] 45)) (.cells #[.int .i64 0, .int .i64 0, .int .i64 0] 45))
  clear hb1 hb2
  generalize World.alloc (World.alloc w _) _ = w2 at H1 H2 HB ⊢
  go_loopg [8] L.length (fun gk v wr => ∃ k : Nat, k + gk = L.length ∧ v = .int .i64 k ∧ Aside0 (wr.heap[w.heap.size]? = some (.cells #[.int .i64 0, .int .i64 0, .int .i64 0] 45 (0, 0))) ∧ Aside0 (wr.heap[w.heap.size + 1]? = some (.cells (totL (L.take k)).cells 45 (0, 0))) ∧ Aside0 (Below w.heap.size w wr))
  case atStart => exact ⟨0, by omega, rfl, H1, ⟨H2.out⟩, HB⟩
  case round =>
    clear H1 H2 HB
    obtain ⟨k, hk, rfl, H1, H2, HB⟩ := hrel
    have HK := Aside0.mk hk
    by_cases hlt : k < L.length
    · obtain ⟨ad, b, rfl, hbk, x0, x1, x2, x3, x4, x5, x6, x7⟩ := at_bk (Kd.C_below HL.out HB.out) k hlt
      have HN := Aside0.mk (totL_next hbk.out)
      obtain ⟨⟨i0, i0'⟩, ⟨i1, i1'⟩, ⟨i2, i2'⟩, ⟨i3, i3'⟩, ⟨i4, i4'⟩, ⟨i5, i5'⟩, ⟨i6, i6'⟩, i7, i7'⟩ := HO.out b (mem_of hbk.out)
      generalize totL (L.take k) = t at H2 HN
      have hl2 := blk_lt H2.out
      have c0 := blk_cell H2.out 0
      have c1 := blk_cell H2.out 1
      have c2 := blk_cell H2.out 2
      have f0 := blk_frozen H2.out 0
      have f1 := blk_frozen H2.out 1
      have f2 := blk_frozen H2.out 2
      simp only [T3.cells, List.getElem?_toArray, List.getElem?_cons_zero, List.getElem?_cons_succ] at c0 c1 c2
      clear hk
      go_wp2
      all_goals
        (go_roundg (gk - 1)
         case measure => have := HK.out; omega
         case rel =>
           refine ⟨k + 1, by have := HK.out; omega, by go_num, ⟨?_⟩, ⟨?_⟩, ⟨?_⟩⟩
           · exact blk_alloc (blk_far (blk_far (blk_far H1.out (by simp) _) (by simp) _) (by simp) _) _
           · rw [HN.out]
             refine blk_alloc (blk_put (blk_put (blk_put H2.out 0 _ rfl) 1 _ rfl) 2 _ ?_) _
             simp [T3.cells, T3.step, mx]
             omega
           · exact balloc (Below.setCell (Below.setCell (Below.setCell HB.out (by simp) _) (by simp) _) (by simp) _) _)
    · have HE := Aside0.mk (show totL (L.take k) = totL L by rw [List.take_of_length_le (by omega)])
      rw [HE.out] at H2
      clear hk
      obtain ⟨t, ht⟩ : ∃ t, totL L = t := ⟨_, rfl⟩
      rw [ht] at H2
      have HT := Aside0.mk ht
      clear ht
      have hl2 := blk_lt H2.out
      have c0 := blk_cell H2.out 0
      have c1 := blk_cell H2.out 1
      have c2 := blk_cell H2.out 2
      have d0 := blk_cell H1.out 0
      have d1 := blk_cell H1.out 1
      have d2 := blk_cell H1.out 2
      have f0 := blk_frozen H1.out 0
      have f1 := blk_frozen H1.out 1
      have f2 := blk_frozen H1.out 2
      simp only [T3.cells, List.getElem?_toArray, List.getElem?_cons_zero, List.getElem?_cons_succ] at c0 c1 c2 d0 d1 d2
      go_wp2
      have hz := blk_put (blk_put (blk_put H1.out 0 (.int .i64 t.x) rfl) 1 (.int .i64 t.y) rfl) 2 (.int .i64 t.z) rfl
      have hB := Below.setCell (Below.setCell (Below.setCell HB.out (p := ⟨w.heap.size, 0, none⟩) (Nat.le_refl _) (.int .i64 t.x)) (p := ⟨w.heap.size, 1, none⟩) (Nat.le_refl _) (.int .i64 t.y)) (p := ⟨w.heap.size, 2, none⟩) (Nat.le_refl _) (.int .i64 t.z)
      generalize World.setCell (World.setCell (World.setCell wr _ _) _ _) _ _ = w3 at hz hB ⊢
      have g0 := blk_cell hz 0
      have g1 := blk_cell hz 1
      have g2 := blk_cell hz 2
      simp at g0 g1 g2
      exact bodyPost_ret (v := .agg #[.int .i64 t.x, .int .i64 t.y, .int .i64 t.z]) (by simp [results, Tryz.results90, go_sem, g0, g1, g2]) rfl ⟨by rw [HT.out]; rfl, hB⟩
/-- A store of three numbers into a block of three. -/
theorem put3 {w : World} {g : Nat} {cs : Array Value} {t : TypeId} (h : w.heap[g]? = some (.cells cs t (0, 0))) (hs : cs.size = 3) (a b c : Value) :
    (((w.setCell ⟨g, 0, none⟩ a).setCell ⟨g, 1, none⟩ b).setCell ⟨g, 2, none⟩ c).heap[g]? = some (.cells #[a, b, c] t (0, 0)) := by
  obtain ⟨l⟩ := cs
  match l, hs with
  | [x, y, z], _ => exact blk_put (blk_put (blk_put h 0 a rfl) 1 b rfl) 2 c rfl
theorem below3 {B : Nat} {w0 w : World} (h : Below B w0 w) {g : Nat} (hg : B ≤ g) (a b c : Value) : Below B w0 (((w.setCell ⟨g, 0, none⟩ a).setCell ⟨g, 1, none⟩ b).setCell ⟨g, 2, none⟩ c) :=
  Below.setCell (Below.setCell (Below.setCell h (p := ⟨g, 0, none⟩) hg a) (p := ⟨g, 1, none⟩) hg b) (p := ⟨g, 2, none⟩) hg c
end Go.Proofs.YtgibcacciedobaaGreatDoor
end
section
/- The laws' copies of books: toByteA3, toBook, toBookS, szBookS. -/
namespace Go.Proofs.YtgibcacciedobaaGreatDoor
open Go.RowKit Go.Proofs.YtgibcacciedobaaGreatDoorW.PrintWords Go.Proofs.YtgibcacciedobaaGreatDoorW.PrintMore
set_option linter.unusedVariables false
set_option linter.unusedSimpArgs false
set_option maxRecDepth 100000

end Go.Proofs.YtgibcacciedobaaGreatDoor
end
section
/- Rows of books that a call makes: make, a store of a whole book. -/
namespace Go.Proofs.YtgibcacciedobaaGreatDoor
open Go.RowKit Go.Proofs.YtgibcacciedobaaGreatDoorW.PrintWords Go.Proofs.YtgibcacciedobaaGreatDoorW.PrintMore
set_option linter.unusedVariables false
set_option linter.unusedSimpArgs false
set_option maxRecDepth 100000

theorem info_bk : (Tryz.prog.info? 30).map (fun i => (i.zero, i.size, i.bytes)) = some (some (.agg #[.int .i16 0, .int .u8 0, .int .u8 0, .int .u8 0, .int .i16 0, .int .i16 0, .int .i16 0, .int .i16 0]), 8, 14) := by kernel_rfl
def zBk : Bk := ⟨0, 0, 0, 0, 0, 0, 0, 0⟩
section
variable {ops : Array Oper} {rest : List Oper} {o : Oper} {a : Act} {Q : Exit → Act → World → Prop}
theorem bk_one (b : Bk) : ∀ q, q ∈ Bk.cells b → q.oneCell' = true := by
  intro u hu
  simp only [Bk.cells, List.mem_cons, List.not_mem_nil, or_false] at hu
  rcases hu with rfl | rfl | rfl | rfl | rfl | rfl | rfl | rfl <;> rfl
/-- make([]Book, n). -/
theorem bk_make {w W : World} (hgd : o.guard = none) {N : Tmp} (hd : o.dst = some N) (x y : Operand) (ho : o.op = .makeSlice 24 x y) (n : Nat) (hx : a.eval x = .int .i64 n) (hy : a.eval y = .int .i64 n)
    (hn : n ≤ 2097152) (HB : Below w.heap.size w W)
    (h : ∀ v1 w1, kBk.R 30 w1 w.heap.size (fun _ => True) v1 (List.replicate n zBk) → Below w.heap.size w w1 → Below W.heap.size W w1 → (∃ b, v1.ownBlock = some b ∧ W.heap.size ≤ b) → wpList Tryz.prog ops Q rest (a.put o.dst v1) w1) : wpList Tryz.prog ops Q (o :: rest) a W := by
  refine Kd.R_make kBk (w0 := w) w.heap.size 30 hgd hd 24 x y ho (n : Int) hx hy Tryz.underlying24 _ 14 info_bk rfl (by decide) (by decide) zBk (ok := fun _ => True) (okp := fun _ => True) rfl (fun _ h => h) trivial (by omega) (by simp only [Int.toNat_natCast]; omega) HB HB.size ?_
  intro v1 w1 h1 h2 h3 h4
  rw [Int.toNat_natCast] at h1
  exact h v1 w1 h1 h2 ⟨h3.os, h3.tape, h3.output, h3.size, fun k hk => h3.block k hk (by simp)⟩ h4
/-- out[i] = b. -/
theorem bk_store {w W : World} (base : Nat) (hN : o.dst = none) (hgd : o.guard = none) (p x : Operand) (ho : o.op = .store 30 p x) {e : TypeId} {g n cap o' : Nat} (i : Nat) (xs : List Bk) (b : Bk) (ok : Nat → Prop)
    (haddr : a.eval p = .pointer (some ⟨g, o', none⟩)) (hoff : o' = i * 8) (hx : a.eval x = b.val)
    (HO : kBk.R e W base ok (.slice (some ⟨g, 0, none⟩) n cap) xs) (hi : i < n) (HB : Below base w W)
    (h : ∀ w1, kBk.R e w1 base ok (.slice (some ⟨g, 0, none⟩) n cap) (xs.set i b) → Below base w w1 → W.grownBy w1 (some g) → wpList Tryz.prog ops Q rest a w1) : wpList Tryz.prog ops Q (o :: rest) a W := by
  obtain ⟨c, hcl, hM, hcc, _⟩ := Kd.R_elem HO zBk (i : Int) (by omega) (by omega)
  have hcl8 : c.length = 8 := hcl
  refine Kd.R_store kBk (w0 := w) base hN hgd 30 p x ho e (i : Int) 0 xs b b.val (Bk.cells b) c ok (fun k => ok k ∧ k ≠ g) haddr (by simp only [Int.toNat_natCast]; exact hoff) hx rfl (by rw [show (Bk.cells b).length = 8 from rfl]; kernel_rfl) (bk_one b) HO (by omega) (by omega) hcl (fun j u hu => by have := hcc j u hu; simpa using this) (by show 0 + 8 ≤ 8; omega) ?_ (fun k hk => hk) HB ?_
  · show _ = Bk.cells b
    rw [List.drop_of_length_le (by show c.length ≤ 0 + 8; omega)]
    simp
  · intro w1 h1 h2 h3
    rw [Int.toNat_natCast] at h1
    exact h w1 h1 h2 h3
end
end Go.Proofs.YtgibcacciedobaaGreatDoor
end
section
/- The laws' copies of lists of books. -/
namespace Go.Proofs.YtgibcacciedobaaGreatDoor
open Go.RowKit Go.Proofs.YtgibcacciedobaaGreatDoorW.PrintWords Go.Proofs.YtgibcacciedobaaGreatDoorW.PrintMore
set_option linter.unusedVariables false
set_option linter.unusedSimpArgs false
set_option maxRecDepth 100000

/-- What a copy says: a row of the call's own that holds L. -/
def NewBk (w : World) (L : List Bk) (v : Value) (w' : World) : Prop := kBk.R 30 w' w.heap.size (fun _ => True) v L
/-- What was copied, as a list that is read from there on. -/
theorem NewBk.open {w w' : World} {L : List Bk} {v : Value} (h : NewBk w L v w') : ∃ A c, v = .slice A L.length c ∧ L.length ≤ c ∧ Aside0 (kBk.C w' A L.length L) := by
  obtain ⟨A, c, h1, h2, h3⟩ := Kd.R_reads h
  exact ⟨A, c, h1, h2, ⟨h3⟩⟩
theorem set_next {α : Type} {L : List α} {z : α} {k : Nat} {x : α} (hx : L[k]? = some x) : (L.take k ++ List.replicate (L.length - k) z).set k x = L.take (k + 1) ++ List.replicate (L.length - (k + 1)) z := by
  have hk : k < L.length := (List.getElem?_eq_some_iff.1 hx).1
  have hl : (L.take k).length = k := by rw [List.length_take]; omega
  rw [List.set_append_right _ _ (by omega), hl, Nat.sub_self, take_snoc hx]
  obtain ⟨m, hm⟩ : ∃ m, L.length - k = m + 1 := ⟨L.length - k - 1, by omega⟩
  rw [hm, List.replicate_succ, List.set_cons_zero, show L.length - (k + 1) = m by omega]
  simp
end Go.Proofs.YtgibcacciedobaaGreatDoor
end
section
/- Rows of whole numbers and of books that a call makes: append; what a call hands back. -/
namespace Go.Proofs.YtgibcacciedobaaGreatDoor
open Go.RowKit Go.Proofs.YtgibcacciedobaaGreatDoorW.PrintWords Go.Proofs.YtgibcacciedobaaGreatDoorW.PrintMore
set_option linter.unusedVariables false
set_option linter.unusedSimpArgs false
set_option maxRecDepth 100000

theorem info_i64 : (Tryz.prog.info? 2).map (fun i => (i.zero, i.size, i.bytes)) = some (some (.int .i64 0), 1, 8) := by kernel_rfl
/-- A row of whole numbers of the call's own. -/
def NewI (w : World) (L : List Int) (v : Value) (w' : World) : Prop := (Kd.int .i64).R 2 w' w.heap.size (fun _ => True) v L
theorem NewI.open {w w' : World} {L : List Int} {v : Value} (h : NewI w L v w') : ∃ A c, v = .slice A L.length c ∧ L.length ≤ c ∧ Aside0 ((Kd.int .i64).C w' A L.length L) := by
  obtain ⟨A, c, h1, h2, h3⟩ := Kd.R_reads h
  exact ⟨A, c, h1, h2, ⟨h3⟩⟩
/-- A row and a whole number handed back. -/
def TupI (w : World) (L : List Int) (n : Int) (v : Value) (w' : World) : Prop := ∃ v1, v = .tuple #[v1, .int .i64 n] ∧ NewI w L v1 w'
def TupB (w : World) (L : List Bk) (n : Int) (v : Value) (w' : World) : Prop := ∃ v1, v = .tuple #[v1, .int .i64 n] ∧ NewBk w L v1 w'
/-- A row of no element that a literal makes. -/
theorem R_zero {α : Type} (d : Kd α) (e : Nat) (W : World) (base : Nat) (ok : Nat → Prop) (hb : base ≤ W.heap.size) (hok : ok W.heap.size) : d.R e (W.alloc (.cells #[] e)) base ok (.slice (some ⟨W.heap.size, 0, none⟩) 0 0) [] := by
  refine ⟨fun k hk => ?_, [], ?_, Reps.none _ _⟩
  · have : W.heap.size = k := by simpa [Value.ownBlock] using hk
    subst this
    exact hok
  · have h2 := World.ownsRow_lit (base := base) (e := e) (size := d.sz) W #[] 0 hb (by decide) (by simp)
    simpa using h2
section
variable {ops : Array Oper} {rest : List Oper} {o : Oper} {a : Act} {Q : Exit → Act → World → Prop}
/-- append(out, n). -/
theorem i64_append {w W : World} (hgd : o.guard = none) (s x : Operand) (ho : o.op = .call { callee := .builtin .append, args := #[s, x], argTypes := #[66, 66] }) (v : Value) (xs : List Int) (n : Int)
    (hs : a.eval s = v) (hx : a.eval x = .slice (some ⟨W.heap.size, 0, none⟩) 1 1) (HO : (Kd.int .i64).R 2 W w.heap.size (fun _ => True) v xs) (HB : Below w.heap.size w W) (hl : xs.length ≤ 2097152)
    (h : ∀ v1 w1, (Kd.int .i64).R 2 w1 w.heap.size (fun _ => True) v1 (xs ++ [n]) → Below w.heap.size w w1 → W.grownBy w1 v.ownBlock → wpList Tryz.prog ops Q rest (a.put o.dst v1) w1) :
    wpList Tryz.prog ops Q (o :: rest) a (W.alloc (.cells #[.int .i64 n] 2)) :=
  Kd.R_append (Kd.int .i64) (w0 := w) w.heap.size hgd s x 66 2 (.int .i64 0) 8 ho Tryz.underlying66 info_i64 rfl (by decide) (by decide) v xs n [.int .i64 n] (fun _ => True) (fun _ => False) hs hx rfl (fun _ h => h.elim) (fun _ _ => trivial) HO HB HB.size (by omega)
    (fun v1 w1 h1 h2 h3 _ => h v1 w1 h1 h2 h3)
/-- append(out, b). -/
theorem bk_append {w W : World} (hgd : o.guard = none) (s x : Operand) (ho : o.op = .call { callee := .builtin .append, args := #[s, x], argTypes := #[24, 24] }) (v : Value) (xs : List Bk) (b : Bk)
    (hs : a.eval s = v) (hx : a.eval x = .slice (some ⟨W.heap.size, 0, none⟩) 1 1) (HO : kBk.R 30 W w.heap.size (fun _ => True) v xs) (HB : Below w.heap.size w W) (hl : xs.length ≤ 2097152)
    (h : ∀ v1 w1, kBk.R 30 w1 w.heap.size (fun _ => True) v1 (xs ++ [b]) → Below w.heap.size w w1 → W.grownBy w1 v.ownBlock → wpList Tryz.prog ops Q rest (a.put o.dst v1) w1) :
    wpList Tryz.prog ops Q (o :: rest) a (W.alloc (.cells (Bk.cells b).toArray 30)) :=
  Kd.R_append kBk (w0 := w) w.heap.size hgd s x 24 30 (.agg #[.int .i16 0, .int .u8 0, .int .u8 0, .int .u8 0, .int .i16 0, .int .i16 0, .int .i16 0, .int .i16 0]) 14 ho Tryz.underlying24 info_bk rfl (by decide) (by decide) v xs b (Bk.cells b) (fun _ => True) (fun _ => False) hs hx rfl (fun _ h => h.elim) (fun _ _ => trivial) HO HB HB.size (by omega)
    (fun v1 w1 h1 h2 h3 _ => h v1 w1 h1 h2 h3)
end
end Go.Proofs.YtgibcacciedobaaGreatDoor
end
section
/- Rows that a law's call owns: they stay while other rows are written. No condition. -/
namespace Go.Proofs.YtgibcacciedobaaGreatDoor
open Go.RowKit Go.Proofs.YtgibcacciedobaaGreatDoorW.PrintWords Go.Proofs.YtgibcacciedobaaGreatDoorW.PrintMore
set_option linter.unusedVariables false
set_option linter.unusedSimpArgs false
/-- A row made since w0, in a block of its own. -/
def Own {α : Type} (d : Kd α) (e : Nat) (w0 w : World) (v : Value) (xs : List α) : Prop := d.R e w w0.heap.size (fun k => some k = v.ownBlock) v xs
/-- Two rows in different blocks. -/
def Apart (u v : Value) : Prop := ∀ k, u.ownBlock = some k → v.ownBlock ≠ some k
theorem Apart.symm {u v : Value} (h : Apart u v) : Apart v u := fun k hk hu => h k hu hk
section
variable {α β : Type} {d : Kd α} {d' : Kd β} {e e' : Nat} {w0 w w' : World} {u v : Value} {xs : List α} {ys : List β}
theorem Own.mk' {w1 : World} {ok : Nat → Prop} (hE : d.E = []) (h : d.R e w w1.heap.size ok v xs) (hB : w0.heap.size ≤ w1.heap.size) : Own d e w0 w v xs := Kd.R_tight hE (Kd.R_lower h hB)
theorem Own.below (h : Own d e w0 w v xs) (hb : Below w.heap.size w w') : Own d e w0 w' v xs := Kd.R_below h hb
theorem Own.grown (h : Own d e w0 w v xs) (hg : w.grownBy w' u.ownBlock) (ha : Apart v u) : Own d e w0 w' v xs := Kd.R_grown h hg (fun k hk he => ha k hk.symm he.symm)
theorem Own.reads {A : Option Addr} {n c : Nat} (h : Own d e w0 w (.slice A n c) xs) : d.C w A xs.length xs := (Kd.R_reads' h).2.2
theorem Own.open (h : Own d e w0 w v xs) : ∃ A c, v = .slice A xs.length c ∧ xs.length ≤ c := by
  obtain ⟨A, c, h1, h2, _⟩ := Kd.R_reads h
  exact ⟨A, c, h1, h2⟩
theorem Own.len {A : Option Addr} {n c : Nat} (h : Own d e w0 w (.slice A n c) xs) : n = xs.length := (Kd.R_reads' h).1
theorem Apart.new {ok : Nat → Prop} (h : Own d e w0 w u xs) (k : d'.R e' w' w.heap.size ok v ys) : Apart u v := fun b hb hv => by
  have h1 := Kd.R_lt h b hb
  have h2 := Kd.R_base k b hv
  omega
theorem Own.mark (h : Own d e w0 w v xs) (hB : Below w0.heap.size w0 w) (hg : w.grownBy w' v.ownBlock) : Below w0.heap.size w0 w' := pw_below_grown hB _ hB.size hg (fun k hk => Kd.R_base h k hk)
end
theorem kBk_E : kBk.E = [] := rfl
theorem kInt_E (k : IntKind) : (Kd.int k).E = [] := rfl
/-- n numbers from k on. -/
def upI (k : Int) : Nat → List Int
  | 0 => []
  | n + 1 => k :: upI (k + 1) n
theorem upI_len (k : Int) (n : Nat) : (upI k n).length = n := by
  induction n generalizing k with
  | zero => rfl
  | succ n ih => simp [upI, ih]
theorem upI_snoc (k : Int) (n : Nat) : upI k (n + 1) = upI k n ++ [k + n] := by
  induction n generalizing k with
  | zero => simp [upI]
  | succ n ih =>
    rw [upI, ih (k + 1), upI]
    simp only [List.cons_append, List.cons.injEq, true_and]
    congr 2
    omega
theorem upI_at (k : Int) {n i : Nat} (h : i < n) : (upI k n)[i]? = some (k + i) := by
  induction n generalizing k i with
  | zero => omega
  | succ n ih =>
    rw [upI]
    cases i with
    | zero => simp
    | succ i =>
      rw [List.getElem?_cons_succ, ih (k + 1) (by omega)]
      congr 1
      omega
/-- What stands behind i stores. -/
theorem upI_set {L : List Int} {k : Int} {i : Nat} (h : i < L.length) : (upI k i ++ L.drop i).set i (k + i) = upI k (i + 1) ++ L.drop (i + 1) := by
  rw [List.set_append_right _ _ (by rw [upI_len]; exact Nat.le_refl _), upI_len, Nat.sub_self, upI_snoc, List.drop_eq_getElem_cons h, List.set_cons_zero]
  simp
end Go.Proofs.YtgibcacciedobaaGreatDoor
end
section
/- The laws' words on rows of whole numbers: copies, comparisons, marks. -/
namespace Go.Proofs.YtgibcacciedobaaGreatDoor
open Go.RowKit Go.Proofs.YtgibcacciedobaaGreatDoorW.PrintWords Go.Proofs.YtgibcacciedobaaGreatDoorW.PrintMore
set_option linter.unusedVariables false
set_option linter.unusedSimpArgs false
set_option maxRecDepth 100000

/-- A row was marked: what it holds, what came back, what else stayed. -/
def Marked {α : Type} (d : Kd α) (e : Nat) (w0 w : World) (v : Value) (ys : List α) (r : Int) (en : Ending) (w' : World) : Prop := en = .returned (.int .i64 r) ∧ Own d e w0 w' v ys ∧ w.grownBy w' v.ownBlock
theorem upM_set {L : List Int} {m : Int} (f : Int → Int) {k : Nat} (h : k < L.length) : ((upI m k).map f ++ L.drop k).set k (f (m + k)) = (upI m (k + 1)).map f ++ L.drop (k + 1) := by
  have hl : ((upI m k).map f).length = k := by rw [List.length_map, upI_len]
  rw [List.set_append_right _ _ (by omega), hl, Nat.sub_self, upI_snoc, List.drop_eq_getElem_cons h, List.set_cons_zero, List.map_append]
  simp
def OkI64 (L : List Int) : Prop := ∀ x, x ∈ L → -9223372036854775808 ≤ x ∧ x ≤ 9223372036854775807
def OkI8 (L : List Int) : Prop := ∀ x, x ∈ L → -128 ≤ x ∧ x ≤ 127
def NewI64 (w : World) (L : List Int) (v : Value) (w' : World) : Prop := (Kd.int .i64).R 2 w' w.heap.size (fun _ => True) v L
theorem NewI64.open {w w' : World} {L : List Int} {v : Value} (h : NewI64 w L v w') : ∃ A c, v = .slice A L.length c ∧ L.length ≤ c ∧ Aside0 ((Kd.int .i64).C w' A L.length L) := by
  obtain ⟨A, c, h1, h2, h3⟩ := Kd.R_reads h
  exact ⟨A, c, h1, h2, ⟨h3⟩⟩
theorem infoI64 : (Tryz.prog.info? 2).map (fun i => (i.zero, i.size, i.bytes)) = some (some (.int .i64 0), 1, 8) := by kernel_rfl
theorem makeI64 {ops : Array Oper} {rest : List Oper} {o : Oper} {a : Act} {Q : Exit → Act → World → Prop} {w W : World} (hgd : o.guard = none) {N : Tmp} (hd : o.dst = some N) (x y : Operand) (ho : o.op = .makeSlice 66 x y) (n : Nat) (hx : a.eval x = .int .i64 n) (hy : a.eval y = .int .i64 n)
    (hn : n ≤ 2097152) (HB : Below w.heap.size w W)
    (h : ∀ v1 w1, (Kd.int .i64).R 2 w1 w.heap.size (fun _ => True) v1 (List.replicate n 0) → Below w.heap.size w w1 → wpList Tryz.prog ops Q rest (a.put o.dst v1) w1) : wpList Tryz.prog ops Q (o :: rest) a W := by
  refine Kd.R_make (Kd.int .i64) (w0 := w) w.heap.size 2 hgd hd 66 x y ho (n : Int) hx hy Tryz.underlying66 _ 8 infoI64 rfl (by decide) (by decide) (0 : Int) (ok := fun _ => True) (okp := fun _ => True) rfl (fun _ h => h) trivial (by omega) (by simp only [Int.toNat_natCast]; omega) HB HB.size ?_
  intro v1 w1 h1 h2 h3 h4
  rw [Int.toNat_natCast] at h1
  exact h v1 w1 h1 h2
end Go.Proofs.YtgibcacciedobaaGreatDoor
end
section
/- Cases: the laws' copies, comparisons and marks. -/
namespace Go.Proofs.YtgibcacciedobaaGreatDoor
open Go.RowKit Go.Proofs.YtgibcacciedobaaGreatDoorW.PrintWords Go.Proofs.YtgibcacciedobaaGreatDoorW.PrintMore
set_option linter.unusedVariables false
set_option linter.unusedSimpArgs false
set_option maxRecDepth 100000

def OkI16 (L : List Int) : Prop := ∀ x, x ∈ L → I16 x
def NewI16 (w : World) (L : List Int) (v : Value) (w' : World) : Prop := (Kd.int .i16).R 27 w' w.heap.size (fun _ => True) v L
theorem NewI16.open {w w' : World} {L : List Int} {v : Value} (h : NewI16 w L v w') : ∃ A c, v = .slice A L.length c ∧ L.length ≤ c ∧ Aside0 ((Kd.int .i16).C w' A L.length L) := by
  obtain ⟨A, c, h1, h2, h3⟩ := Kd.R_reads h
  exact ⟨A, c, h1, h2, ⟨h3⟩⟩
theorem infoI16 : (Tryz.prog.info? 27).map (fun i => (i.zero, i.size, i.bytes)) = some (some (.int .i16 0), 1, 2) := by kernel_rfl
theorem makeI16 {ops : Array Oper} {rest : List Oper} {o : Oper} {a : Act} {Q : Exit → Act → World → Prop} {w W : World} (hgd : o.guard = none) {N : Tmp} (hd : o.dst = some N) (x y : Operand) (ho : o.op = .makeSlice 72 x y) (n : Nat) (hx : a.eval x = .int .i64 n) (hy : a.eval y = .int .i64 n)
    (hn : n ≤ 2097152) (HB : Below w.heap.size w W)
    (h : ∀ v1 w1, (Kd.int .i16).R 27 w1 w.heap.size (fun _ => True) v1 (List.replicate n 0) → Below w.heap.size w w1 → wpList Tryz.prog ops Q rest (a.put o.dst v1) w1) : wpList Tryz.prog ops Q (o :: rest) a W := by
  refine Kd.R_make (Kd.int .i16) (w0 := w) w.heap.size 27 hgd hd 72 x y ho (n : Int) hx hy Tryz.underlying72 _ 2 infoI16 rfl (by decide) (by decide) (0 : Int) (ok := fun _ => True) (okp := fun _ => True) rfl (fun _ h => h) trivial (by omega) (by simp only [Int.toNat_natCast]; omega) HB HB.size ?_
  intro v1 w1 h1 h2 h3 h4
  rw [Int.toNat_natCast] at h1
  exact h v1 w1 h1 h2
/-- A case of shelves. -/
structure Cs where
  wd : Int
  ld : Int
  hs : List Int
deriving DecidableEq
def Cs.ok (k : Cs) : Prop := I16 k.wd ∧ (-2147483648 ≤ k.ld ∧ k.ld ≤ 2147483647) ∧ OkI16 k.hs
def Cs.val (k : Cs) (A : Option Addr) (c : Nat) : Value := .agg #[.int .i16 k.wd, .int .i32 k.ld, .slice A k.hs.length c]
def Cs.cells (k : Cs) (A : Option Addr) (c : Nat) : Array Value := #[.int .i16 k.wd, .int .i32 k.ld, .slice A k.hs.length c]
/-- A case lies at an address. -/
structure CsAt (w : World) (a : Addr) (k : Cs) (A : Option Addr) (c : Nat) : Prop where
  c0 : w.cell? a = some (.int .i16 k.wd)
  c1 : w.cell? ⟨a.block, a.off + 1, none⟩ = some (.int .i32 k.ld)
  c2 : w.cell? ⟨a.block, a.off + 2, none⟩ = some (.slice A k.hs.length c)
theorem CsAt.lt {w : World} {a : Addr} {k : Cs} {A : Option Addr} {c : Nat} (h : CsAt w a k A c) : a.block < w.heap.size := World.block_lt_of_cell? w a h.c0
theorem CsAt.below {w w1 : World} {a : Addr} {k : Cs} {A : Option Addr} {c : Nat} (h : CsAt w a k A c) (hb : Below w.heap.size w w1) : CsAt w1 a k A c :=
  ⟨(hb.cell (p := a) h.lt).trans h.c0, (hb.cell (p := ⟨a.block, a.off + 1, none⟩) h.lt).trans h.c1, (hb.cell (p := ⟨a.block, a.off + 2, none⟩) h.lt).trans h.c2⟩
theorem CsAt.box (w : World) (k : Cs) (A : Option Addr) (c : Nat) (t : TypeId) : CsAt (w.alloc (.cells #[.int .i16 k.wd, .int .i32 k.ld, .slice A k.hs.length c] t)) ⟨w.heap.size, 0, none⟩ k A c :=
  ⟨(blk_cell (blk_new w _) 0).trans rfl, (blk_cell (blk_new w _) 1).trans rfl, (blk_cell (blk_new w _) 2).trans rfl⟩
/-- A store below what is new. -/
theorem new_far {α : Type} {d : Kd α} {e : Nat} {w : World} {B : Nat} {v : Value} {L : List α} (h : d.R e w B (fun _ => True) v L) {p : Addr} (hp : p.block < B) (u : Value) : d.R e (w.setCell p u) B (fun _ => True) v L :=
  Kd.R_mono (Kd.R_far (ok := fun k => B ≤ k) (Kd.R_mono (Kd.R_bound h) (fun k hk => hk.2.1)) (fun k hk => by omega) u) (fun _ _ => trivial)
theorem new_alloc {α : Type} {d : Kd α} {e : Nat} {w : World} {B : Nat} {v : Value} {L : List α} (h : d.R e w B (fun _ => True) v L) (o : Obj) : d.R e (w.alloc o) B (fun _ => True) v L := Kd.R_alloc h o
/-- What a copy of a case says. -/
def NewCs (w : World) (k : Cs) (v : Value) (w' : World) : Prop := ∃ A c, v = k.val A c ∧ NewI16 w k.hs (.slice A k.hs.length c) w'
end Go.Proofs.YtgibcacciedobaaGreatDoor
end
section
/- A case is valid: the program's and the reference's. -/
namespace Go.Proofs.YtgibcacciedobaaGreatDoor
open Go.RowKit Go.Proofs.YtgibcacciedobaaGreatDoorW.PrintWords Go.Proofs.YtgibcacciedobaaGreatDoorW.PrintMore
set_option linter.unusedVariables false
set_option linter.unusedSimpArgs false
set_option maxRecDepth 100000


theorem indexFuncI16_c (A : Option Addr) (c : Nat) (L : List Int) (f : FuncId) (cap : Array Value) (p : Int → Bool) (w : World)
    (hL : (Kd.int .i16).C w A L.length L) (hfn : Fun Tryz.prog f)
    (hf : ∀ W, Below w.heap.size w W → ∀ x, x ∈ L → Calls Tryz.prog f (#[.int .i16 x] ++ cap) W (Ret W (.bool (p x)))) :
    Calls Tryz.prog 196 #[.slice A L.length c, .func (.func f) #[] cap] w (Ret w (.int .i64 (idxF L p))) := by
  have hm := Kd.C_max hL
  have hcf := hfn.run
  have HF := Aside0.mk hf
  have HL := Aside0.mk hL
  clear hf hfn hL
  go_enter Tryz.func196, Tryz.ntmps196
  go_wp2
  go_loopg [8] L.length (fun gk v8 wr => ∃ k : Nat, k + gk = L.length ∧ v8 = .int .i64 k ∧ Aside0 (∀ x, x ∈ L.take k → p x = false) ∧ Aside0 (Below w.heap.size w wr))
  case atStart => exact ⟨0, by omega, rfl, ⟨by simp⟩, ⟨Below.refl _ _⟩⟩
  case round =>
    obtain ⟨k, hk, rfl, hp, hb⟩ := hrel
    have HK := Aside0.mk hk
    by_cases hlt : k < L.length
    · obtain ⟨ad, x, rfl, hbk, hx⟩ := at_int' (Kd.C_below HL.out hb.out) k (by omega)
      clear hk
      go_wp2_with (refine (HF.out _ hb.out _ (mem_of hbk.out)).mono ?_; rintro _ w1 ⟨rfl, hb1⟩)
      · rename_i hpb
        go_ret
        exact ⟨ret_int (idxF_hit hp.out hbk.out hpb).symm, bstep hb.out hb1⟩
      · rename_i hpb
        go_roundg (gk - 1)
        case measure => have := HK.out; omega
        case rel => exact ⟨k + 1, by have := HK.out; omega, by go_num, ⟨fun y hy => by rw [take_snoc hbk.out] at hy; rcases List.mem_append.1 hy with hy | hy; exact hp.out y hy; rw [List.mem_singleton.1 hy]; exact hpb⟩, ⟨bstep hb.out hb1⟩⟩
    · clear hk
      go_wp2
      go_ret
      refine ⟨ret_int (idxF_none ?_).symm, hb.out⟩
      have hp1 := hp.out
      rw [List.take_of_length_le (by omega)] at hp1
      exact hp1


theorem containsFuncI16_c (A : Option Addr) (c : Nat) (L : List Int) (f : FuncId) (cap : Array Value) (p : Int → Bool) (w : World)
    (hL : (Kd.int .i16).C w A L.length L) (hfn : Fun Tryz.prog f)
    (hf : ∀ W, Below w.heap.size w W → ∀ x, x ∈ L → Calls Tryz.prog f (#[.int .i16 x] ++ cap) W (Ret W (.bool (p x)))) :
    Calls Tryz.prog 169 #[.slice A L.length c, .func (.func f) #[] cap] w (Ret w (.bool (L.any p))) := by
  have HI := Aside0.mk (indexFuncI16_c A c L f cap p w hL hfn hf)
  clear hL hfn hf
  go_enter Tryz.func169, Tryz.ntmps169
  go_wp2_with (go_at_call 196; refine HI.out.mono ?_; rintro _ w1 ⟨rfl, hb1⟩)
  all_goals (go_ret; exact ⟨ret_bool (idxF_any L p), hb1⟩)


theorem allCloI16_c (x : Int) (f : FuncId) (cap : Array Value) (g : Nat) (w : World) (r : Bool) (hc : w.cell? ⟨g, 0, none⟩ = some (.func (.func f) #[] cap)) (hg : g < w.heap.size)
    (hf : ∀ W, Below w.heap.size w W → Calls Tryz.prog f (#[.int .i16 x] ++ cap) W (Ret W (.bool r))) (hfn : Fun Tryz.prog f) :
    Calls Tryz.prog 170 #[.int .i16 x, .pointer (some ⟨g, 0, none⟩)] w (Ret w (.bool (!r))) := by
  have hcf := hfn.run
  have HF := Aside0.mk hf
  have hca : ∀ o, (w.alloc o).cell? ⟨g, 0, none⟩ = some (.func (.func f) #[] cap) := fun o => (World.cell?_alloc_lt w o _ hg).trans hc
  clear hf hfn
  go_enter Tryz.func170, Tryz.ntmps170
  go_wp2_with (refine (HF.out _ (by first | exact Below.refl _ _ | exact balloc (Below.refl _ _) _)).mono ?_; rintro _ w1 ⟨rfl, hb1⟩)
  all_goals (go_ret; exact ⟨rfl, by first | exact hb1 | exact bstep (balloc (Below.refl _ _) _) hb1⟩)
theorem areAllI16_c (A : Option Addr) (c : Nat) (L : List Int) (f : FuncId) (cap : Array Value) (p : Int → Bool) (w : World)
    (hL : (Kd.int .i16).C w A L.length L) (hfn : Fun Tryz.prog f)
    (hf : ∀ W, Below w.heap.size w W → ∀ x, x ∈ L → Calls Tryz.prog f (#[.int .i16 x] ++ cap) W (Ret W (.bool (p x)))) :
    Calls Tryz.prog 126 #[.slice A L.length c, .func (.func f) #[] cap] w (Ret w (.bool (L.all p))) := by
  have hcl : ∀ W, Below (w.alloc (.cells #[.func (.func f) #[] cap] 139)).heap.size (w.alloc (.cells #[.func (.func f) #[] cap] 139)) W → ∀ x, x ∈ L →
      Calls Tryz.prog 170 (#[.int .i16 x] ++ #[.pointer (some ⟨w.heap.size, 0, none⟩)]) W (Ret W (.bool (!(p x)))) := fun W hW x hx => by
    have h0 : W.cell? ⟨w.heap.size, 0, none⟩ = some (.func (.func f) #[] cap) := by
      rw [hW.cell (by simp)]; exact (blk_cell (blk_new w _) 0).trans rfl
    have hbW : Below w.heap.size w W := bstep (balloc (Below.refl _ _) _) hW
    exact allCloI16_c x f cap w.heap.size W (p x) h0 (by have := hW.size; simp at this; omega) (fun W' hW' => hf W' (bstep hbW hW') x hx) hfn
  have HI := Aside0.mk (containsFuncI16_c A c L 170 #[.pointer (some ⟨w.heap.size, 0, none⟩)] (fun x => !(p x)) (w.alloc (.cells #[.func (.func f) #[] cap] 139)) (Kd.C_alloc hL _) ⟨_, Tryz.func170, rfl, rfl⟩ hcl)
  clear hL hfn hf hcl
  go_enter Tryz.func126, Tryz.ntmps126
  go_wp2_with (go_at_call 169; refine HI.out.mono ?_; rintro _ w1 ⟨rfl, hb1⟩)
  all_goals (go_ret; exact ⟨ret_bool (by rw [List.all_eq_not_any_not]), bstep (balloc (Below.refl _ _) _) hb1⟩)

def vCase (k : Cs) : Bool := inR k.wd 1 2000 && (inR k.ld 1 200000 && (inR k.hs.length 1 12 && k.hs.all (fun x => inR x 50 1000)))
theorem within32_c (n lo hi : Int) (w : World) : Calls Tryz.prog 125 #[.int .i32 n, .int .i32 lo, .int .i32 hi] w (RetS w (.bool (inR n lo hi))) := by
  go_enter Tryz.func125, Tryz.ntmps125
  go_wp2
  all_goals (go_ret; refine ⟨ret_bool ?_, rfl⟩; unfold inR; rw [Bool.eq_iff_iff]; simp; omega)
theorem withinI_c (n lo hi : Int) (w : World) : Calls Tryz.prog 109 #[.int .i64 n, .int .i64 lo, .int .i64 hi] w (RetS w (.bool (inR n lo hi))) := by
  go_enter Tryz.func109, Tryz.ntmps109
  go_wp2
  all_goals (go_ret; refine ⟨ret_bool ?_, rfl⟩; unfold inR; rw [Bool.eq_iff_iff]; simp; omega)
theorem vcClo_c (n : Int) (w : World) : Calls Tryz.prog 127 #[.int .i16 n] w (RetS w (.bool (inR n 50 1000))) := by
  go_enter Tryz.func127, Tryz.ntmps127
  go_wp2_with (refine (within16_c _ _ _ _).mono ?_; rintro _ w1 ⟨rfl, rfl⟩)
  all_goals (go_ret; exact ⟨rfl, rfl⟩)
set_option maxHeartbeats 1000000 in
theorem ValidCase_c (k : Cs) (A : Option Addr) (c : Nat) (w : World) (hC : (Kd.int .i16).C w A k.hs.length k.hs) :
    Calls Tryz.prog 54 #[k.val A c] w (Ret w (.bool (vCase k))) := by
  have hm := Kd.C_max hC
  have HA := Aside0.mk (areAllI16_c A c k.hs 127 #[] (fun x => inR x 50 1000) _ (Kd.C_alloc hC (.cells #[.int .i16 k.wd, .int .i32 k.ld, .slice A k.hs.length c] 74)) ⟨_, Tryz.func127, rfl, rfl⟩ (fun W hW x hx => (vcClo_c x W).mono fun e w' h => h.ret))
  have HB := Aside0.mk (balloc (Below.refl w.heap.size w) (.cells #[.int .i16 k.wd, .int .i32 k.ld, .slice A k.hs.length c] 74))
  have H1 := Aside0.mk (fun W => within16_c k.wd 1 2000 W)
  have H2 := Aside0.mk (fun W => within32_c k.ld 1 200000 W)
  have H3 := Aside0.mk (fun W => withinI_c k.hs.length 1 12 W)
  have HE := Aside0.mk (show vCase k = (inR k.wd 1 2000 && (inR k.ld 1 200000 && (inR k.hs.length 1 12 && k.hs.all (fun x => inR x 50 1000)))) from rfl)
  clear hC
  simp only [Cs.val]
  cases h1 : inR k.wd 1 2000
  · rw [h1] at H1 HE
    clear h1
    go_enter Tryz.func54, Tryz.ntmps54
    go_wp2_with fail
    refine (H1.out _).mono ?_; rintro _ w1 ⟨rfl, rfl⟩
    go_wp2_with fail
    go_ret
    exact ⟨ret_bool HE.out.symm, HB.out⟩
  · rw [h1] at H1 HE
    clear h1
    cases h2 : inR k.ld 1 200000
    · rw [h2] at H2 HE
      clear h2
      go_enter Tryz.func54, Tryz.ntmps54
      go_wp2_with fail
      refine (H1.out _).mono ?_; rintro _ w1 ⟨rfl, rfl⟩
      go_wp2_with fail
      refine (H2.out _).mono ?_; rintro _ w1 ⟨rfl, rfl⟩
      go_wp2_with fail
      go_ret
      exact ⟨ret_bool HE.out.symm, HB.out⟩
    · rw [h2] at H2 HE
      clear h2
      cases h3 : inR k.hs.length 1 12
      · rw [h3] at H3 HE
        clear h3
        go_enter Tryz.func54, Tryz.ntmps54
        go_wp2_with fail
        refine (H1.out _).mono ?_; rintro _ w1 ⟨rfl, rfl⟩
        go_wp2_with fail
        refine (H2.out _).mono ?_; rintro _ w1 ⟨rfl, rfl⟩
        go_wp2_with fail
        refine (H3.out _).mono ?_; rintro _ w1 ⟨rfl, rfl⟩
        go_wp2_with fail
        go_ret
        exact ⟨ret_bool HE.out.symm, HB.out⟩
      · rw [h3] at H3 HE
        clear h3
        go_enter Tryz.func54, Tryz.ntmps54
        go_wp2_with fail
        refine (H1.out _).mono ?_; rintro _ w1 ⟨rfl, rfl⟩
        go_wp2_with fail
        refine (H2.out _).mono ?_; rintro _ w1 ⟨rfl, rfl⟩
        go_wp2_with fail
        refine (H3.out _).mono ?_; rintro _ w1 ⟨rfl, rfl⟩
        go_wp2_with fail
        refine HA.out.mono ?_; rintro _ w1 ⟨rfl, hb1⟩
        have HB1 := Aside0.mk (bstep HB.out hb1)
        clear hb1
        go_wp2_with fail
        go_ret
        exact ⟨ret_bool HE.out.symm, HB1.out⟩
theorem all_take {α : Type} {L : List α} {p : α → Bool} {k : Nat} {x : α} (h : ∀ y, y ∈ L.take k → p y = true) (hx : L[k]? = some x) (hp : p x = true) : ∀ y, y ∈ L.take (k + 1) → p y = true := by
  intro y hy
  rw [take_snoc hx] at hy
  rcases List.mem_append.1 hy with hy | hy
  · exact h y hy
  · rw [List.mem_singleton.1 hy]; exact hp
set_option maxHeartbeats 4000000 in
theorem l02Ok_c (k : Cs) (A : Option Addr) (c : Nat) (hok : k.ok) (p : Addr) (w : World) (hp : CsAt w p k A c) (hC : (Kd.int .i16).C w A k.hs.length k.hs) :
    Calls Tryz.prog 168 #[.pointer (some p)] w (RetS w (.bool (vCase k))) := by
  have hm := Kd.C_max hC
  have HL := Aside0.mk hC
  obtain ⟨⟨o1, o2⟩, ⟨o3, o4⟩, o5⟩ := hok
  have HO := Aside0.mk o5
  have HE := Aside0.mk (show vCase k = (inR k.wd 1 2000 && (inR k.ld 1 200000 && (inR k.hs.length 1 12 && k.hs.all (fun x => inR x 50 1000)))) from rfl)
  obtain ⟨y0, y1, y2⟩ := hp
  clear hC o5
  have H1 := Aside0.mk (fun W => l00In_c k.wd 1 2000 W)
  have H2 := Aside0.mk (fun W => l00In_c k.ld 1 200000 W)
  have H3 := Aside0.mk (fun W => l00In_c k.hs.length 1 12 W)
  cases h1 : inR k.wd 1 2000
  · rw [h1] at H1 HE
    clear h1
    go_enter Tryz.func168, Tryz.ntmps168
    go_wp2_with fail
    refine (H1.out _).mono ?_; rintro _ w1 ⟨rfl, rfl⟩
    go_wp2_with fail
    go_ret
    exact ⟨ret_bool HE.out.symm, rfl⟩
  · rw [h1] at H1 HE
    clear h1
    cases h2 : inR k.ld 1 200000
    · rw [h2] at H2 HE
      clear h2
      go_enter Tryz.func168, Tryz.ntmps168
      go_wp2_with fail
      refine (H1.out _).mono ?_; rintro _ w1 ⟨rfl, rfl⟩
      go_wp2_with fail
      refine (H2.out _).mono ?_; rintro _ w1 ⟨rfl, rfl⟩
      go_wp2_with fail
      go_ret
      exact ⟨ret_bool HE.out.symm, rfl⟩
    · rw [h2] at H2 HE
      clear h2
      cases h3 : inR k.hs.length 1 12
      · rw [h3] at H3 HE
        clear h3
        go_enter Tryz.func168, Tryz.ntmps168
        go_wp2_with fail
        refine (H1.out _).mono ?_; rintro _ w1 ⟨rfl, rfl⟩
        go_wp2_with fail
        refine (H2.out _).mono ?_; rintro _ w1 ⟨rfl, rfl⟩
        go_wp2_with fail
        refine (H3.out _).mono ?_; rintro _ w1 ⟨rfl, rfl⟩
        go_wp2_with fail
        go_ret
        exact ⟨ret_bool HE.out.symm, rfl⟩
      · rw [h3] at H3 HE
        simp only [Bool.true_and] at HE
        clear h3
        go_enter Tryz.func168, Tryz.ntmps168
        go_wp2_with fail
        refine (H1.out _).mono ?_; rintro _ w1 ⟨rfl, rfl⟩
        go_wp2_with fail
        refine (H2.out _).mono ?_; rintro _ w1 ⟨rfl, rfl⟩
        go_wp2_with fail
        refine (H3.out _).mono ?_; rintro _ w1 ⟨rfl, rfl⟩
        clear H1 H2 H3
        go_wp2_with fail
        go_loopg [3] k.hs.length (fun gk v wr => ∃ i : Nat, i + gk = k.hs.length ∧ v = .int .i64 i ∧ Aside0 (∀ x, x ∈ k.hs.take i → inR x 50 1000 = true) ∧ w = wr)
        case atStart => exact ⟨0, by omega, rfl, ⟨by simp⟩, rfl⟩
        case round =>
          obtain ⟨i, hk, rfl, hp, rfl⟩ := hrel
          have HK := Aside0.mk hk
          by_cases hlt : i < k.hs.length
          · obtain ⟨ad, x, rfl, hbk, hx⟩ := at_int' HL.out i (by omega)
            obtain ⟨q1, q2⟩ := HO.out x (mem_of hbk.out)
            have HW := Aside0.mk (fun W => l00In_c x 50 1000 W)
            clear hk
            have i0 : (0 : Int) ≤ (i : Int) := by omega
            have i1 : (i : Int) < (k.hs.length : Int) := by omega
            cases hv : inR x 50 1000
            · rw [hv] at HW
              have HN := Aside0.mk (show k.hs.all (fun x => inR x 50 1000) = false from all_hit (p := fun x => inR x 50 1000) hbk.out hv)
              clear hv
              go_wp2_with fail
              refine (HW.out _).mono ?_; rintro _ w1 ⟨rfl, rfl⟩
              go_wp2_with fail
              go_ret
              exact ⟨ret_bool (by rw [HE.out, HN.out]), rfl⟩
            · rw [hv] at HW
              have HN := Aside0.mk (all_take (p := fun x => inR x 50 1000) hp.out hbk.out hv)
              clear hv
              go_wp2_with fail
              refine (HW.out _).mono ?_; rintro _ w1 ⟨rfl, rfl⟩
              go_wp2_with fail
              go_roundg (gk - 1)
              case measure => have := HK.out; omega
              case rel => exact ⟨i + 1, by have := HK.out; omega, by go_num, HN, rfl⟩
          · have HN := Aside0.mk (show k.hs.all (fun x => inR x 50 1000) = true by
              have h1 := hp.out
              rw [List.take_of_length_le (by omega)] at h1
              exact List.all_eq_true.2 h1)
            clear hk
            go_wp2
            go_ret
            exact ⟨ret_bool (by rw [HE.out, HN.out]), rfl⟩
end Go.Proofs.YtgibcacciedobaaGreatDoor
end
section
/- Books fit on a shelf: the program's and the reference's. -/
namespace Go.Proofs.YtgibcacciedobaaGreatDoor
open Go.RowKit Go.Proofs.YtgibcacciedobaaGreatDoorW.PrintWords Go.Proofs.YtgibcacciedobaaGreatDoorW.PrintMore
set_option linter.unusedVariables false
set_option linter.unusedSimpArgs false
set_option maxRecDepth 100000

def fitT (t : T3) (wd ld h : Int) : Bool := decide (t.x ≤ wd) && (decide (t.y ≤ h) && decide (t.z ≤ ld))
def Cs.h (k : Cs) (s : Nat) : Int := k.hs.getD s 0
def fitL (k : Cs) (s : Nat) (L : List Bk) : Bool := fitT (totL L) k.wd k.ld (k.h s)
def freeL (k : Cs) (s : Nat) (L : List Bk) : Int := if fitL k s L = true then k.wd - (totL L).x else -1
theorem Cs.h_at {k : Cs} {s : Nat} {x : Int} (h : k.hs[s]? = some x) : k.h s = x := by unfold Cs.h; rw [List.getD_eq_getElem?_getD, h]; rfl
set_option maxHeartbeats 2000000 in
theorem fits_c (k : Cs) (A : Option Addr) (c s : Nat) (A1 : Option Addr) (c1 : Nat) (L : List Bk) (hok : k.ok) (hoL : OkL L) (hs : s < k.hs.length) (w : World) (hC : (Kd.int .i16).C w A k.hs.length k.hs) (hL : kBk.C w A1 L.length L) :
    Calls Tryz.prog 120 #[k.val A c, .int .i64 s, .slice A1 L.length c1] w (Ret w (.bool (fitL k s L))) := by
  have hm := Kd.C_max hC
  have HT := Aside0.mk (totals_c A1 c1 L hoL _ (Kd.C_alloc hL (.cells #[.int .i16 k.wd, .int .i32 k.ld, .slice A k.hs.length c] 74)))
  have HX := Aside0.mk (CsAt.box w k A c 74)
  have HB := Aside0.mk (balloc (Below.refl w.heap.size w) (.cells #[.int .i16 k.wd, .int .i32 k.ld, .slice A k.hs.length c] 74))
  obtain ⟨ad, x, rfl, hbk, hx⟩ := at_int' hC s hs
  have HC := Aside0.mk hx
  obtain ⟨⟨o1, o2⟩, ⟨o3, o4⟩, o5⟩ := hok
  obtain ⟨q1, q2⟩ := o5 x (mem_of hbk.out)
  have HE := Aside0.mk (show fitL k s L = (decide ((totL L).x ≤ k.wd) && (decide ((totL L).y ≤ x) && decide ((totL L).z ≤ k.ld))) by unfold fitL fitT; rw [Cs.h_at hbk.out])
  clear hC hL o5 hx hbk
  generalize totL L = t at HT HE
  have i0 : (0 : Int) ≤ (s : Int) := by omega
  have i1 : (s : Int) < (k.hs.length : Int) := by omega
  simp only [Cs.val, T3.cells] at HT ⊢
  by_cases h1 : t.x ≤ k.wd
  · have d1 : decide (t.x ≤ k.wd) = true := decide_eq_true h1
    by_cases h2 : t.y ≤ x
    · have d2 : decide (t.y ≤ x) = true := decide_eq_true h2
      by_cases h3 : t.z ≤ k.ld
      · have d3 : decide (t.z ≤ k.ld) = true := decide_eq_true h3
        rw [d1, d2, d3] at HE
        go_enter Tryz.func120, Tryz.ntmps120
        go_wp2_with fail
        refine HT.out.mono ?_; rintro _ w1 ⟨rfl, hb1⟩
        have HB1 := Aside0.mk (balloc (bstep HB.out hb1) (.cells #[.int .i64 t.x, .int .i64 t.y, .int .i64 t.z] 45))
        obtain ⟨y0, y1, y2⟩ := (HX.out.below hb1).below (balloc (Below.refl _ _) (.cells #[.int .i64 t.x, .int .i64 t.y, .int .i64 t.z] 45))
        have hx1 : (w1.alloc (.cells #[.int .i64 t.x, .int .i64 t.y, .int .i64 t.z] 45)).cell? (ad.add s) = some (.int .i16 x) := pw_cell_below (balloc (bstep HB.out hb1) _) HC.out
        clear hb1
        go_wp2_with fail
        go_quiet (fail)
        go_wp2
        go_ret
        exact ⟨ret_bool HE.out.symm, bdrewN HB1.out _⟩
      · have d3 : decide (t.z ≤ k.ld) = false := decide_eq_false h3
        rw [d1, d2, d3] at HE
        go_enter Tryz.func120, Tryz.ntmps120
        go_wp2_with fail
        refine HT.out.mono ?_; rintro _ w1 ⟨rfl, hb1⟩
        have HB1 := Aside0.mk (balloc (bstep HB.out hb1) (.cells #[.int .i64 t.x, .int .i64 t.y, .int .i64 t.z] 45))
        obtain ⟨y0, y1, y2⟩ := (HX.out.below hb1).below (balloc (Below.refl _ _) (.cells #[.int .i64 t.x, .int .i64 t.y, .int .i64 t.z] 45))
        have hx1 : (w1.alloc (.cells #[.int .i64 t.x, .int .i64 t.y, .int .i64 t.z] 45)).cell? (ad.add s) = some (.int .i16 x) := pw_cell_below (balloc (bstep HB.out hb1) _) HC.out
        clear hb1
        go_wp2_with fail
        go_quiet (fail)
        go_wp2
        go_ret
        exact ⟨ret_bool HE.out.symm, bdrewN HB1.out _⟩
    · have d2 : decide (t.y ≤ x) = false := decide_eq_false h2
      rw [d1, d2] at HE
      go_enter Tryz.func120, Tryz.ntmps120
      go_wp2_with fail
      refine HT.out.mono ?_; rintro _ w1 ⟨rfl, hb1⟩
      have HB1 := Aside0.mk (balloc (bstep HB.out hb1) (.cells #[.int .i64 t.x, .int .i64 t.y, .int .i64 t.z] 45))
      obtain ⟨y0, y1, y2⟩ := (HX.out.below hb1).below (balloc (Below.refl _ _) (.cells #[.int .i64 t.x, .int .i64 t.y, .int .i64 t.z] 45))
      have hx1 : (w1.alloc (.cells #[.int .i64 t.x, .int .i64 t.y, .int .i64 t.z] 45)).cell? (ad.add s) = some (.int .i16 x) := pw_cell_below (balloc (bstep HB.out hb1) _) HC.out
      clear hb1
      go_wp2_with fail
      go_quiet (fail)
      go_wp2
      go_ret
      exact ⟨ret_bool HE.out.symm, bdrewN HB1.out _⟩
  · have d1 : decide (t.x ≤ k.wd) = false := decide_eq_false h1
    rw [d1] at HE
    go_enter Tryz.func120, Tryz.ntmps120
    go_wp2_with fail
    refine HT.out.mono ?_; rintro _ w1 ⟨rfl, hb1⟩
    have HB1 := Aside0.mk (balloc (bstep HB.out hb1) (.cells #[.int .i64 t.x, .int .i64 t.y, .int .i64 t.z] 45))
    obtain ⟨y0, y1, y2⟩ := (HX.out.below hb1).below (balloc (Below.refl _ _) (.cells #[.int .i64 t.x, .int .i64 t.y, .int .i64 t.z] 45))
    have hx1 : (w1.alloc (.cells #[.int .i64 t.x, .int .i64 t.y, .int .i64 t.z] 45)).cell? (ad.add s) = some (.int .i16 x) := pw_cell_below (balloc (bstep HB.out hb1) _) HC.out
    clear hb1
    go_wp2_with fail
    go_quiet (fail)
    go_wp2
    go_ret
    exact ⟨ret_bool HE.out.symm, bdrewN HB1.out _⟩
/-- Few books, each one valid. -/
structure FitOk (L : List Bk) : Prop where
  len : L.length ≤ 60
  bk : ∀ b ∈ L, (1 ≤ b.wd ∧ b.wd ≤ 100) ∧ (50 ≤ b.h ∧ b.h ≤ 400) ∧ 1 ≤ b.wt ∧ b.wt ≤ 9999
theorem FitOk.of {L : List Bk} (h : vBooks L = true) : FitOk L := by
  refine ⟨vBooks_len h, fun b hb => ?_⟩
  unfold vBooks at h
  rw [Bool.and_eq_true, List.all_eq_true] at h
  have := h.2 b hb
  unfold vBook at this
  simp only [Bool.and_eq_true, inR_iff] at this
  exact ⟨this.2.2.2.1, this.2.2.2.2.1, this.2.2.2.2.2⟩
theorem FitOk.sub {L M : List Bk} (h : FitOk L) (hs : M.Sublist L) : FitOk M := ⟨Nat.le_trans hs.length_le h.len, fun b hb => h.bk b (hs.subset hb)⟩
theorem FitOk.tot {L : List Bk} (h : FitOk L) (n : Nat) (hn : n ≤ L.length) : (0 ≤ (totL (L.take n)).x ∧ (totL (L.take n)).x ≤ 100 * n) ∧ 0 ≤ (totL (L.take n)).y ∧ 0 ≤ (totL (L.take n)).z ∧ (totL (L.take n)).z ≤ 9999 * n := by
  induction n with
  | zero => simp [totL]
  | succ n ih =>
    have ih := ih (by omega)
    have hl : n < L.length := by omega
    have hg : L[n]? = some L[n] := List.getElem?_eq_getElem hl
    rw [totL_next hg]
    have hb := h.bk L[n] (List.getElem_mem hl)
    have hlen := h.len
    generalize L[n] = b at hb
    generalize totL (L.take n) = t at ih
    simp only [T3.step, mx, wrap64]
    split <;> omega
theorem FitOk.step {L : List Bk} (h : FitOk L) {n : Nat} {b : Bk} (hb : L[n]? = some b) : totL (L.take (n + 1)) = ⟨(totL (L.take n)).x + b.wd, mx (totL (L.take n)).y b.h, (totL (L.take n)).z + b.wt⟩ := by
  have hl := (List.getElem?_eq_some_iff.1 hb).1
  have h1 := h.tot n (by omega)
  have h2 := h.bk b (mem_of hb)
  have hlen := h.len
  rw [totL_next hb]
  generalize totL (L.take n) = t at h1
  have e1 : wrap64 (t.x + b.wd) = t.x + b.wd := by unfold wrap64; omega
  have e2 : wrap64 (t.z + b.wt) = t.z + b.wt := by unfold wrap64; omega
  simp only [T3.step, e1, e2]
theorem tot_mono (L : List Bk) (n d : Nat) (hn : n + d ≤ L.length) : (totL (L.take n)).y ≤ (totL (L.take (n + d))).y := by
  induction d with
  | zero => exact Int.le_refl _
  | succ d ih =>
    have ih := ih (by omega)
    have hl : n + d < L.length := by omega
    rw [show n + (d + 1) = n + d + 1 by omega, totL_next (List.getElem?_eq_getElem hl)]
    generalize totL (L.take (n + d)) = t at ih
    simp only [T3.step, mx]
    split <;> omega
set_option maxHeartbeats 4000000 in
theorem l02Free_c (k : Cs) (A : Option Addr) (c s : Nat) (p : Addr) (A1 : Option Addr) (c1 : Nat) (L : List Bk) (hok : k.ok) (hfo : FitOk L) (hs : s < k.hs.length) (hh : 0 ≤ k.h s) (w : World) (hp : CsAt w p k A c) (hC : (Kd.int .i16).C w A k.hs.length k.hs) (hL : kBk.C w A1 L.length L) :
    Calls Tryz.prog 122 #[.pointer (some p), .int .i64 s, .slice A1 L.length c1] w (Ret w (.int .i64 (freeL k s L))) := by
  have hm := Kd.C_max hC
  have hm1 := Kd.C_max hL
  obtain ⟨ad, x, rfl, hbk, hx⟩ := at_int' hC s hs
  have HX := Aside0.mk hx
  have HP := Aside0.mk hp
  have HL := Aside0.mk hL
  have HF := Aside0.mk hfo
  obtain ⟨⟨o1, o2⟩, ⟨o3, o4⟩, o5⟩ := hok
  obtain ⟨q1, q2⟩ := o5 x (mem_of hbk.out)
  have hxe := Cs.h_at hbk.out
  rw [hxe] at hh
  have HE := Aside0.mk (show freeL k s L = if (totL L).x ≤ k.wd ∧ (totL L).y ≤ x ∧ (totL L).z ≤ k.ld then k.wd - (totL L).x else -1 by
    unfold freeL fitL fitT
    rw [hxe]
    simp only [Bool.and_eq_true, decide_eq_true_eq])
  have i0 : (0 : Int) ≤ (s : Int) := by omega
  have i1 : (s : Int) < (k.hs.length : Int) := by omega
  have HN := Aside0.mk (show L.length ≤ 60 from hfo.len)
  obtain ⟨y0, y1, y2⟩ := hp
  clear hC hL hfo o5 hxe hbk hx
  go_enter Tryz.func122, Tryz.ntmps122
  go_wp2
  clear y0 y1 y2
  go_loopg [7, 8, 9] L.length (fun gk v7 v8 v9 wr => ∃ n : Nat, ∃ a b : Int, n + gk = L.length ∧ v9 = .int .i64 n ∧ v7 = .int .i64 a ∧ v8 = .int .i64 b ∧ Aside0 (a = k.wd - (totL (L.take n)).x ∧ b = (totL (L.take n)).z ∧ (totL (L.take n)).y ≤ x) ∧ Aside0 (Below w.heap.size w wr))
  case atStart => exact ⟨0, k.wd, 0, by omega, rfl, rfl, rfl, ⟨by simp [totL, hh]⟩, ⟨Below.refl _ _⟩⟩
  case round =>
    obtain ⟨n, a, b, hk, rfl, rfl, rfl, hp, hb⟩ := hrel
    obtain ⟨y0, y1, y2⟩ := HP.out.below hb.out
    have HK := Aside0.mk hk
    by_cases hlt : n < L.length
    · obtain ⟨ad1, bk, rfl, hbk, x0, x1, x2, x3, x4, x5, x6, x7⟩ := at_bk (Kd.C_below HL.out hb.out) n hlt
      have hx1 : wr.cell? (ad.add s) = some (.int .i16 x) := pw_cell_below hb.out HX.out
      have HS := Aside0.mk (HF.out.step hbk.out)
      obtain ⟨⟨t1, t2⟩, t3, t4, t5⟩ := HF.out.tot n (by omega)
      obtain ⟨⟨u1, u2⟩, ⟨u3, u4⟩, u5, u6⟩ := HF.out.bk bk (mem_of hbk.out)
      have hn60 := HN.out
      have a1 : -6000 ≤ a - 100 + 100 + 32768 := by have := hp.out.1; omega
      have a2 : a ≤ 32767 := by have := hp.out.1; omega
      have a3 : -40000 ≤ a := by have := hp.out.1; omega
      have b1 : 0 ≤ b := by have := hp.out.2.1; omega
      have b2 : b ≤ 600000 := by have := hp.out.2.1; omega
      clear hk a1 t1 t2 t3 t4 t5 hn60
      by_cases hbh : x < bk.h
      · have HR := Aside0.mk (show freeL k s L = -1 by
          rw [HE.out, if_neg]
          rintro ⟨_, h2, _⟩
          have h3 := tot_mono L (n + 1) (L.length - (n + 1)) (by omega)
          rw [show n + 1 + (L.length - (n + 1)) = L.length by omega, List.take_length, HS.out] at h3
          simp only [mx] at h3
          split at h3 <;> omega)
        have dd : decide (x < bk.h) = true := decide_eq_true hbh
        go_wp2_with fail
        go_quiet (fail)
        go_wp2
        go_ret
        exact ⟨ret_int HR.out.symm, bdrewN hb.out _⟩
      · have HR := Aside0.mk (show a - bk.wd = k.wd - (totL (L.take (n + 1))).x ∧ b + bk.wt = (totL (L.take (n + 1))).z ∧ (totL (L.take (n + 1))).y ≤ x by
          rw [HS.out]
          have := hp.out
          refine ⟨by simp only []; omega, by simp only []; omega, ?_⟩
          simp only [mx]
          split <;> omega)
        have dd : decide (x < bk.h) = false := decide_eq_false hbh
        go_wp2_with fail
        go_quiet (fail)
        go_wp2
        go_roundg (gk - 1)
        case measure => have := HK.out; omega
        case rel => exact ⟨n + 1, a - bk.wd, b + bk.wt, by have := HK.out; omega, by go_num, by go_num, by go_num, HR, ⟨bdrewN hb.out _⟩⟩
    · have hT := hp.out
      obtain ⟨⟨t1, t2⟩, t3, t4, t5⟩ := HF.out.tot n (by omega)
      rw [List.take_of_length_le (by omega)] at hT t1 t2 t3 t4 t5
      have HT := Aside0.mk hT
      have hn60 := HN.out
      have a1 : -40000 ≤ a := by omega
      have a2 : a ≤ 32767 := by omega
      have b1 : 0 ≤ b := by omega
      have b2 : b ≤ 600000 := by omega
      clear hk hT t1 t2 t3 t4 t5 hn60
      by_cases ha : a < 0
      · have HR := Aside0.mk (show freeL k s L = -1 by rw [HE.out, if_neg]; rintro ⟨h1, _, _⟩; have := HT.out; omega)
        go_wp2
        go_ret
        exact ⟨ret_int HR.out.symm, hb.out⟩
      · by_cases hl : k.ld < b
        · have HR := Aside0.mk (show freeL k s L = -1 by rw [HE.out, if_neg]; rintro ⟨_, _, h3⟩; have := HT.out; omega)
          go_wp2
          go_ret
          exact ⟨ret_int HR.out.symm, hb.out⟩
        · have HR := Aside0.mk (show freeL k s L = a by rw [HE.out, if_pos (by have := HT.out; omega)]; have := HT.out; omega)
          go_wp2
          go_ret
          exact ⟨ret_int HR.out.symm, hb.out⟩
theorem free_iff {k : Cs} {s : Nat} {L : List Bk} : decide (0 ≤ freeL k s L) = fitL k s L := by
  unfold freeL
  cases h : fitL k s L
  · rw [if_neg (by decide)]; rfl
  · rw [if_pos rfl]
    unfold fitL fitT at h
    simp only [Bool.and_eq_true, decide_eq_true_eq] at h
    exact decide_eq_true (by omega)
end Go.Proofs.YtgibcacciedobaaGreatDoor
end
section
/- Regions that draw their order and whose callees may lay blocks of their own, walked once. -/
namespace Go.Proofs.YtgibcacciedobaaGreatDoor
open Go.RowKit Go.Proofs.YtgibcacciedobaaGreatDoorW.PrintWords Go.Proofs.YtgibcacciedobaaGreatDoorW.PrintMore
set_option linter.unusedVariables false
set_option linter.unusedSimpArgs false
set_option maxRecDepth 100000

/-- A world that has grown out of w, what lay below kept. -/
structure Over (w : World) where
  W : World
  h : Below w.heap.size w W
instance (w : World) : Inhabited (Over w) := ⟨⟨w, Below.refl _ _⟩⟩
theorem region_over {P : Program} {id : Nat} {Q : Exit → Act → World → Prop} {a : Act} {w : World} {l : List Oper} (hm : P.follows .mixedOrders = true) (hB : Region.lexB .any l.toArray = true)
    (h : wpQuiet P l.toArray (fun w' => ∃ p : Over w, w' = p.W) (fun a' => ∀ w', (∃ p : Over w, w' = p.W) → Q .normal a' w') l a) : (Code.region id l.toArray true).wp P Q a w :=
  wp_region_quiet (C := fun w' => ∃ p : Over w, w' = p.W) hm hB ⟨⟨w.drew, bdrew (Below.refl _ _)⟩, rfl⟩ (by simpa using h)
theorem Calls.over_of {P : Program} {f : FuncId} {args : Array Value} {w : World} {p : Over w} {v : Value} (h : Calls P f args p.W (Ret p.W v)) : Calls P f args p.W (fun e w'' => e = .returned v ∧ ∃ q : Over w, w'' = q.W) :=
  h.mono fun e w' h => ⟨h.1, ⟨w', bstep p.h h.2⟩, rfl⟩
theorem over_out {w w' : World} (h : ∃ p : Over w, w' = p.W) : Below w.heap.size w w' := by
  obtain ⟨p, hp⟩ := h
  rw [hp]; exact p.h
/-- A cell of an old block. -/
theorem Over.cell {w : World} {a : Addr} {v : Value} (h : w.cell? a = some v) (p : Over w) : p.W.cell? a = some v := pw_cell_below p.h h
end Go.Proofs.YtgibcacciedobaaGreatDoor
end
section
/- Numbers of books on shelves: ascending, and the shelf of a book; the program's and the reference's. -/
namespace Go.Proofs.YtgibcacciedobaaGreatDoor
open Go.RowKit Go.Proofs.YtgibcacciedobaaGreatDoorW.PrintWords Go.Proofs.YtgibcacciedobaaGreatDoorW.PrintMore
set_option linter.unusedVariables false
set_option linter.unusedSimpArgs false
set_option maxRecDepth 100000


theorem indexFuncI64_c (A : Option Addr) (c : Nat) (L : List Int) (f : FuncId) (cap : Array Value) (p : Int → Bool) (w : World)
    (hL : (Kd.int .i64).C w A L.length L) (hfn : Fun Tryz.prog f)
    (hf : ∀ W, Below w.heap.size w W → ∀ x, x ∈ L → Calls Tryz.prog f (#[.int .i64 x] ++ cap) W (Ret W (.bool (p x)))) :
    Calls Tryz.prog 214 #[.slice A L.length c, .func (.func f) #[] cap] w (Ret w (.int .i64 (idxF L p))) := by
  have hm := Kd.C_max hL
  have hcf := hfn.run
  have HF := Aside0.mk hf
  have HL := Aside0.mk hL
  clear hf hfn hL
  go_enter Tryz.func214, Tryz.ntmps214
  go_wp2
  go_loopg [8] L.length (fun gk v8 wr => ∃ k : Nat, k + gk = L.length ∧ v8 = .int .i64 k ∧ Aside0 (∀ x, x ∈ L.take k → p x = false) ∧ Aside0 (Below w.heap.size w wr))
  case atStart => exact ⟨0, by omega, rfl, ⟨by simp⟩, ⟨Below.refl _ _⟩⟩
  case round =>
    obtain ⟨k, hk, rfl, hp, hb⟩ := hrel
    have HK := Aside0.mk hk
    by_cases hlt : k < L.length
    · obtain ⟨ad, x, rfl, hbk, hx⟩ := at_int' (Kd.C_below HL.out hb.out) k (by omega)
      clear hk
      go_wp2_with (refine (HF.out _ hb.out _ (mem_of hbk.out)).mono ?_; rintro _ w1 ⟨rfl, hb1⟩)
      · rename_i hpb
        go_ret
        exact ⟨ret_int (idxF_hit hp.out hbk.out hpb).symm, bstep hb.out hb1⟩
      · rename_i hpb
        go_roundg (gk - 1)
        case measure => have := HK.out; omega
        case rel => exact ⟨k + 1, by have := HK.out; omega, by go_num, ⟨fun y hy => by rw [take_snoc hbk.out] at hy; rcases List.mem_append.1 hy with hy | hy; exact hp.out y hy; rw [List.mem_singleton.1 hy]; exact hpb⟩, ⟨bstep hb.out hb1⟩⟩
    · clear hk
      go_wp2
      go_ret
      refine ⟨ret_int (idxF_none ?_).symm, hb.out⟩
      have hp1 := hp.out
      rw [List.take_of_length_le (by omega)] at hp1
      exact hp1


theorem containsFuncI64_c (A : Option Addr) (c : Nat) (L : List Int) (f : FuncId) (cap : Array Value) (p : Int → Bool) (w : World)
    (hL : (Kd.int .i64).C w A L.length L) (hfn : Fun Tryz.prog f)
    (hf : ∀ W, Below w.heap.size w W → ∀ x, x ∈ L → Calls Tryz.prog f (#[.int .i64 x] ++ cap) W (Ret W (.bool (p x)))) :
    Calls Tryz.prog 197 #[.slice A L.length c, .func (.func f) #[] cap] w (Ret w (.bool (L.any p))) := by
  have HI := Aside0.mk (indexFuncI64_c A c L f cap p w hL hfn hf)
  clear hL hfn hf
  go_enter Tryz.func197, Tryz.ntmps197
  go_wp2_with (go_at_call 214; refine HI.out.mono ?_; rintro _ w1 ⟨rfl, hb1⟩)
  all_goals (go_ret; exact ⟨ret_bool (idxF_any L p), hb1⟩)


theorem allCloI64_c (x : Int) (f : FuncId) (cap : Array Value) (g : Nat) (w : World) (r : Bool) (hc : w.cell? ⟨g, 0, none⟩ = some (.func (.func f) #[] cap)) (hg : g < w.heap.size)
    (hf : ∀ W, Below w.heap.size w W → Calls Tryz.prog f (#[.int .i64 x] ++ cap) W (Ret W (.bool r))) (hfn : Fun Tryz.prog f) :
    Calls Tryz.prog 198 #[.int .i64 x, .pointer (some ⟨g, 0, none⟩)] w (Ret w (.bool (!r))) := by
  have hcf := hfn.run
  have HF := Aside0.mk hf
  have hca : ∀ o, (w.alloc o).cell? ⟨g, 0, none⟩ = some (.func (.func f) #[] cap) := fun o => (World.cell?_alloc_lt w o _ hg).trans hc
  clear hf hfn
  go_enter Tryz.func198, Tryz.ntmps198
  go_wp2_with (refine (HF.out _ (by first | exact Below.refl _ _ | exact balloc (Below.refl _ _) _)).mono ?_; rintro _ w1 ⟨rfl, hb1⟩)
  all_goals (go_ret; exact ⟨rfl, by first | exact hb1 | exact bstep (balloc (Below.refl _ _) _) hb1⟩)
theorem areAllI64_c (A : Option Addr) (c : Nat) (L : List Int) (f : FuncId) (cap : Array Value) (p : Int → Bool) (w : World)
    (hL : (Kd.int .i64).C w A L.length L) (hfn : Fun Tryz.prog f)
    (hf : ∀ W, Below w.heap.size w W → ∀ x, x ∈ L → Calls Tryz.prog f (#[.int .i64 x] ++ cap) W (Ret W (.bool (p x)))) :
    Calls Tryz.prog 172 #[.slice A L.length c, .func (.func f) #[] cap] w (Ret w (.bool (L.all p))) := by
  have hcl : ∀ W, Below (w.alloc (.cells #[.func (.func f) #[] cap] 111)).heap.size (w.alloc (.cells #[.func (.func f) #[] cap] 111)) W → ∀ x, x ∈ L →
      Calls Tryz.prog 198 (#[.int .i64 x] ++ #[.pointer (some ⟨w.heap.size, 0, none⟩)]) W (Ret W (.bool (!(p x)))) := fun W hW x hx => by
    have h0 : W.cell? ⟨w.heap.size, 0, none⟩ = some (.func (.func f) #[] cap) := by
      rw [hW.cell (by simp)]; exact (blk_cell (blk_new w _) 0).trans rfl
    have hbW : Below w.heap.size w W := bstep (balloc (Below.refl _ _) _) hW
    exact allCloI64_c x f cap w.heap.size W (p x) h0 (by have := hW.size; simp at this; omega) (fun W' hW' => hf W' (bstep hbW hW') x hx) hfn
  have HI := Aside0.mk (containsFuncI64_c A c L 198 #[.pointer (some ⟨w.heap.size, 0, none⟩)] (fun x => !(p x)) (w.alloc (.cells #[.func (.func f) #[] cap] 111)) (Kd.C_alloc hL _) ⟨_, Tryz.func198, rfl, rfl⟩ hcl)
  clear hL hfn hf hcl
  go_enter Tryz.func172, Tryz.ntmps172
  go_wp2_with (go_at_call 197; refine HI.out.mono ?_; rintro _ w1 ⟨rfl, hb1⟩)
  all_goals (go_ret; exact ⟨ret_bool (by rw [List.all_eq_not_any_not]), bstep (balloc (Below.refl _ _) _) hb1⟩)

theorem idx_of' {α : Type} (L : List α) (p : α → Bool) : (if idxF L p < 0 then (L.length : Int) else idxF L p) = (L.findIdx p : Nat) := by
  unfold idxF
  by_cases h : L.any p = true
  · rw [if_pos h, if_neg (by omega)]
  · rw [if_neg h, if_pos (by omega)]
    congr 1
    symm
    rw [List.findIdx_eq_length]
    intro x hx
    cases e : p x
    · rfl
    · exact absurd (List.any_eq_true.2 ⟨x, hx, e⟩) h
/-- The shelf on which a book stands. -/
def shOf (L : List Int) (b : Int) : Nat := L.findIdx (fun e => decide (b < e))
theorem findIdx_hit {α : Type} {L : List α} {p : α → Bool} {k : Nat} {x : α} (h0 : ∀ y, y ∈ L.take k → p y = false) (hx : L[k]? = some x) (hp : p x = true) : L.findIdx p = k := by
  have hl : k < L.length := (List.getElem?_eq_some_iff.1 hx).1
  have hxe : L[k] = x := (List.getElem?_eq_some_iff.1 hx).2
  rw [List.findIdx_eq hl]
  refine ⟨by rw [hxe]; exact hp, fun j hj => ?_⟩
  exact h0 _ (List.mem_take_iff_getElem.2 ⟨j, by omega, rfl⟩)
/-- Ascending from a on, at most 60. -/
def grF : Int → List Int → Bool
  | _, [] => true
  | a, x :: xs => inR x a 60 && grF x xs
def grow (L : List Int) : Bool := grF 0 L
theorem grF_iff (L : List Int) : ∀ a, grF a L = true ↔ L.Pairwise (· ≤ ·) ∧ ∀ x ∈ L, a ≤ x ∧ x ≤ 60 := by
  induction L with
  | nil => intro a; simp [grF]
  | cons x xs ih =>
    intro a
    rw [grF, Bool.and_eq_true, ih x, inR_iff, List.pairwise_cons]
    constructor
    · rintro ⟨h1, h2, h3⟩
      refine ⟨⟨fun y hy => (h3 y hy).1, h2⟩, fun y hy => ?_⟩
      rcases List.mem_cons.1 hy with rfl | hy
      · exact h1
      · have := h3 y hy; omega
    · rintro ⟨⟨h1, h2⟩, h3⟩
      refine ⟨h3 x (by simp), h2, fun y hy => ⟨h1 y hy, (h3 y (by simp [hy])).2⟩⟩
theorem grow_eq (L : List Int) : (decide (L.Pairwise (· ≤ ·)) && L.all (fun x => inR x 0 60)) = grow L := by
  rw [Bool.eq_iff_iff, Bool.and_eq_true, decide_eq_true_eq, List.all_eq_true]
  unfold grow
  rw [grF_iff]
  simp only [inR_iff]
theorem pw_of_adj {L : List Int} (h : ∀ j x y, L[j]? = some x → L[j + 1]? = some y → x ≤ y) : L.Pairwise (· ≤ ·) := by
  rw [List.pairwise_iff_getElem]
  intro i j hi hj hij
  obtain ⟨d, rfl⟩ : ∃ d, j = i + 1 + d := ⟨j - i - 1, by omega⟩
  induction d with
  | zero => exact h i _ _ (List.getElem?_eq_getElem hi) (List.getElem?_eq_getElem hj)
  | succ d ih =>
    have h1 := ih (by omega) (by omega)
    have h2 := h (i + 1 + d) _ _ (List.getElem?_eq_getElem (by omega)) (List.getElem?_eq_getElem hj)
    omega
theorem add_suc (ad : Addr) (k : Nat) : ad.add (k + 1) = ⟨ad.block, ad.off + (k + 1), none⟩ := by simp [Addr.add]
theorem within64_c (n lo hi : Int) (w : World) : Calls Tryz.prog 87 #[.int .i64 n, .int .i64 lo, .int .i64 hi] w (RetS w (.bool (inR n lo hi))) := by
  go_enter Tryz.func87, Tryz.ntmps87
  go_wp2
  all_goals (go_ret; refine ⟨ret_bool ?_, rfl⟩; unfold inR; rw [Bool.eq_iff_iff]; simp; omega)
theorem grF_drop {L : List Int} {k : Nat} {x : Int} (a : Int) (h : L[k]? = some x) : grF a (L.drop k) = (inR x a 60 && grF x (L.drop (k + 1))) := by
  obtain ⟨hl, he⟩ := List.getElem?_eq_some_iff.1 h
  rw [List.drop_eq_getElem_cons hl, he, grF]
end Go.Proofs.YtgibcacciedobaaGreatDoor
end
section
/- Layouts: FitsOn, the first bad shelf; the program's and the reference's. -/
namespace Go.Proofs.YtgibcacciedobaaGreatDoor
open Go.RowKit Go.Proofs.YtgibcacciedobaaGreatDoorW.PrintWords Go.Proofs.YtgibcacciedobaaGreatDoorW.PrintMore
set_option linter.unusedVariables false
set_option linter.unusedSimpArgs false
set_option maxRecDepth 100000

/-- The code of a case and a list. -/
def eCL (k : Cs) (L : List Bk) : Int := if (vCase k && vBooks L) = true then 0 else 1
theorem eCL_1 {k : Cs} {L : List Bk} (h : vCase k = false) : eCL k L = 1 := by unfold eCL; rw [h]; rfl
theorem eCL_2 {k : Cs} {L : List Bk} (h : vBooks L = false) : eCL k L = 1 := by unfold eCL; rw [h, Bool.and_false]; rfl
theorem eCL_0 {k : Cs} {L : List Bk} (h : vCase k = true) (h' : vBooks L = true) : eCL k L = 0 := by unfold eCL; rw [h, h']; rfl
structure CsBd (k : Cs) : Prop where
  wd : 1 ≤ k.wd ∧ k.wd ≤ 2000
  ld : 1 ≤ k.ld ∧ k.ld ≤ 200000
  n : 1 ≤ k.hs.length ∧ k.hs.length ≤ 12
  h : ∀ s, 0 ≤ k.h s
theorem vCase_bd {k : Cs} (h : vCase k = true) : CsBd k := by
  unfold vCase at h
  simp only [Bool.and_eq_true, inR_iff, List.all_eq_true] at h
  obtain ⟨h1, h2, h3, h4⟩ := h
  refine ⟨h1, h2, by omega, fun s => ?_⟩
  unfold Cs.h
  rw [List.getD_eq_getElem?_getD]
  cases e : k.hs[s]? with
  | none => exact Int.le_refl _
  | some x => have := h4 x (mem_of e); show 0 ≤ x; omega
theorem l02Asked_c (k : Cs) (A : Option Addr) (c : Nat) (p : Addr) (A1 : Option Addr) (c1 : Nat) (L : List Bk) (hok : k.ok) (hoL : OkL L) (w : World) (hp : CsAt w p k A c) (hC : (Kd.int .i16).C w A k.hs.length k.hs) (hL : kBk.C w A1 L.length L) :
    Calls Tryz.prog 121 #[.pointer (some p), .slice A1 L.length c1] w (Ret w (.int .i64 (eCL k L))) := by
  have HO := Aside0.mk (l02Ok_c k A c hok p w hp hC)
  have HB := Aside0.mk (l01Ok_c A1 c1 L hoL w hL)
  clear hC hL hp
  cases v1 : vCase k
  · have HE := Aside0.mk (eCL_1 (L := L) v1)
    rw [v1] at HO
    clear v1
    go_enter Tryz.func121, Tryz.ntmps121
    go_wp2_with fail
    refine HO.out.mono ?_; rintro _ w1 ⟨rfl, rfl⟩
    go_wp2_with fail
    go_ret
    exact ⟨ret_int HE.out.symm, Below.refl _ _⟩
  · rw [v1] at HO
    cases v2 : vBooks L
    · have HE := Aside0.mk (eCL_2 (k := k) v2)
      rw [v2] at HB
      clear v1 v2
      go_enter Tryz.func121, Tryz.ntmps121
      go_wp2_with fail
      refine HO.out.mono ?_; rintro _ w1 ⟨rfl, rfl⟩
      go_wp2_with fail
      refine HB.out.mono ?_; rintro _ w1 ⟨rfl, hb1⟩
      go_wp2_with fail
      go_ret
      exact ⟨ret_int HE.out.symm, hb1⟩
    · have HE := Aside0.mk (eCL_0 v1 v2)
      rw [v2] at HB
      clear v1 v2
      go_enter Tryz.func121, Tryz.ntmps121
      go_wp2_with fail
      refine HO.out.mono ?_; rintro _ w1 ⟨rfl, rfl⟩
      go_wp2_with fail
      refine HB.out.mono ?_; rintro _ w1 ⟨rfl, hb1⟩
      go_wp2_with fail
      go_ret
      exact ⟨ret_int HE.out.symm, hb1⟩
def foE (k : Cs) (n : Int) (L : List Bk) : Int := if eCL k L = 0 then (if inR n 0 ((k.hs.length : Int) - 1) = true then 0 else 2) else eCL k L
def foV (k : Cs) (n : Int) (L : List Bk) : Bool := decide (foE k n L = 0) && fitL k n.toNat L
theorem fo_bad {k : Cs} {n : Int} {L : List Bk} (h : eCL k L = 1) : foV k n L = false ∧ foE k n L = 1 := by
  have h1 : foE k n L = 1 := by unfold foE; rw [h]; rfl
  exact ⟨by unfold foV; rw [h1]; rfl, h1⟩
theorem fo_out {k : Cs} {n : Int} {L : List Bk} (h : eCL k L = 0) (h2 : inR n 0 ((k.hs.length : Int) - 1) = false) : foV k n L = false ∧ foE k n L = 2 := by
  have h1 : foE k n L = 2 := by unfold foE; rw [if_pos h, h2]; rfl
  exact ⟨by unfold foV; rw [h1]; rfl, h1⟩
theorem fo_ok {k : Cs} {n : Int} {L : List Bk} (h : eCL k L = 0) (h2 : inR n 0 ((k.hs.length : Int) - 1) = true) : foV k n L = fitL k n.toNat L ∧ foE k n L = 0 := by
  have h1 : foE k n L = 0 := by unfold foE; rw [if_pos h, h2]; rfl
  exact ⟨by unfold foV; rw [h1]; rfl, h1⟩
theorem ret_bi {a c : Bool} {b d : Int} (h : a = c) (k : b = d) : Ending.returned (.tuple #[.bool a, .int .i64 b]) = .returned (.tuple #[.bool c, .int .i64 d]) := by rw [h, k]
theorem wrap_pred (n : Nat) (h : n ≤ 9223372036854775807) : IntKind.i64.wrap ((n : Int) - 1) = (n : Int) - 1 := by simp only [IntKind.wrap, IntKind.bits, IntKind.signed, Bool.true_and, decide_eq_true_eq, ge_iff_le]; split <;> omega
set_option maxHeartbeats 2000000 in
theorem FitsOn_c (k : Cs) (A : Option Addr) (c : Nat) (n : Int) (A1 : Option Addr) (c1 : Nat) (L : List Bk) (hok : k.ok) (hoL : OkL L) (w : World) (hC : (Kd.int .i16).C w A k.hs.length k.hs) (hL : kBk.C w A1 L.length L) :
    Calls Tryz.prog 61 #[k.val A c, .int .i64 n, .slice A1 L.length c1] w (Ret w (.tuple #[.bool (foV k n L), .int .i64 (foE k n L)])) := by
  have hm := Kd.C_max hC
  have hm1 := Kd.C_max hL
  have HC := Aside0.mk hC
  have HL := Aside0.mk hL
  have HVC := Aside0.mk (fun W h => ValidCase_c k A c W h)
  have HVB := Aside0.mk (fun W h => ValidBooks_c A1 c1 L W h)
  have HB := Aside0.mk (balloc (Below.refl w.heap.size w) (.cells #[.int .i16 k.wd, .int .i32 k.ld, .slice A k.hs.length c] 74))
  have HX := Aside0.mk (CsAt.box w k A c 74)
  clear hC hL
  simp only [Cs.val] at HVC ⊢
  have iw := wrap_pred _ hm
  have HW := Aside0.mk (fun W => within64_c n 0 ((k.hs.length : Int) - 1) W)
  cases v1 : vCase k
  · rw [v1] at HVC
    have HE := Aside0.mk (fo_bad (n := n) (eCL_1 (L := L) v1))
    clear v1
    obtain ⟨y0, y1, y2⟩ := HX.out
    go_enter Tryz.func61, Tryz.ntmps61
    go_wp2_with fail
    refine (HVC.out _ (Kd.C_alloc HC.out _)).mono ?_; rintro _ w1 ⟨rfl, hb1⟩
    have HB1 := Aside0.mk (bstep HB.out hb1)
    have HX1 := Aside0.mk (HX.out.below hb1)
    clear hb1 y0 y1 y2
    obtain ⟨y0, y1, y2⟩ := HX1.out
    go_wp2_with fail
    go_ret2
    exact ⟨ret_bi HE.out.1.symm HE.out.2.symm, HB1.out⟩
  · rw [v1] at HVC
    cases v2 : vBooks L
    · rw [v2] at HVB
      have HE := Aside0.mk (fo_bad (n := n) (eCL_2 (k := k) v2))
      clear v1 v2
      obtain ⟨y0, y1, y2⟩ := HX.out
      go_enter Tryz.func61, Tryz.ntmps61
      go_wp2_with fail
      refine (HVC.out _ (Kd.C_alloc HC.out _)).mono ?_; rintro _ w1 ⟨rfl, hb1⟩
      have HB1 := Aside0.mk (bstep HB.out hb1)
      have HX1 := Aside0.mk (HX.out.below hb1)
      clear hb1 y0 y1 y2
      obtain ⟨y0, y1, y2⟩ := HX1.out
      go_wp2_with fail
      refine (HVB.out _ (Kd.C_below HL.out HB1.out)).mono ?_; rintro _ w2 ⟨rfl, hb2⟩
      have HB2 := Aside0.mk (bstep HB1.out hb2)
      have HX2 := Aside0.mk (HX1.out.below hb2)
      clear hb2 y0 y1 y2
      obtain ⟨y0, y1, y2⟩ := HX2.out
      go_wp2_with fail
      go_ret2
      exact ⟨ret_bi HE.out.1.symm HE.out.2.symm, HB2.out⟩
    · rw [v2] at HVB
      have HV0 := Aside0.mk (eCL_0 v1 v2)
      have HFO := Aside0.mk (FitOk.of v2)
      have HVK := Aside0.mk (vCase_bd v1)
      clear v1 v2
      cases v3 : inR n 0 ((k.hs.length : Int) - 1)
      · have HE := Aside0.mk (fo_out HV0.out v3)
        rw [v3] at HW
        clear v3
        obtain ⟨y0, y1, y2⟩ := HX.out
        go_enter Tryz.func61, Tryz.ntmps61
        go_wp2_with fail
        refine (HVC.out _ (Kd.C_alloc HC.out _)).mono ?_; rintro _ w1 ⟨rfl, hb1⟩
        have HB1 := Aside0.mk (bstep HB.out hb1)
        have HX1 := Aside0.mk (HX.out.below hb1)
        clear hb1 y0 y1 y2
        obtain ⟨y0, y1, y2⟩ := HX1.out
        go_wp2_with fail
        refine (HVB.out _ (Kd.C_below HL.out HB1.out)).mono ?_; rintro _ w2 ⟨rfl, hb2⟩
        have HB2 := Aside0.mk (bstep HB1.out hb2)
        have HX2 := Aside0.mk (HX1.out.below hb2)
        clear hb2 y0 y1 y2
        obtain ⟨y0, y1, y2⟩ := HX2.out
        go_wp2_with fail
        refine (HW.out _).mono ?_; rintro _ w3 ⟨rfl, rfl⟩
        go_wp2_with fail
        go_ret2
        exact ⟨ret_bi HE.out.1.symm HE.out.2.symm, HB2.out⟩
      · have HE := Aside0.mk (fo_ok HV0.out v3)
        rw [v3] at HW
        obtain ⟨n1, n2⟩ := inR_iff.1 v3
        obtain ⟨s, rfl⟩ : ∃ s : Nat, n = s := ⟨n.toNat, by omega⟩
        rw [Int.toNat_natCast] at HE
        have HF := Aside0.mk (fun W h1 h2 => fits_c k A c s A1 c1 L hok hoL (by omega) W h1 h2)
        simp only [Cs.val] at HF
        clear v3
        obtain ⟨y0, y1, y2⟩ := HX.out
        go_enter Tryz.func61, Tryz.ntmps61
        go_wp2_with fail
        refine (HVC.out _ (Kd.C_alloc HC.out _)).mono ?_; rintro _ w1 ⟨rfl, hb1⟩
        have HB1 := Aside0.mk (bstep HB.out hb1)
        have HX1 := Aside0.mk (HX.out.below hb1)
        clear hb1 y0 y1 y2
        obtain ⟨y0, y1, y2⟩ := HX1.out
        go_wp2_with fail
        refine (HVB.out _ (Kd.C_below HL.out HB1.out)).mono ?_; rintro _ w2 ⟨rfl, hb2⟩
        have HB2 := Aside0.mk (bstep HB1.out hb2)
        have HX2 := Aside0.mk (HX1.out.below hb2)
        clear hb2 y0 y1 y2
        obtain ⟨y0, y1, y2⟩ := HX2.out
        go_wp2_with fail
        refine (HW.out _).mono ?_; rintro _ w3 ⟨rfl, rfl⟩
        go_wp2_with fail
        refine (HF.out _ (Kd.C_below HC.out HB2.out) (Kd.C_below HL.out HB2.out)).mono ?_; rintro _ w3 ⟨rfl, hb3⟩
        have HB3 := Aside0.mk (bstep HB2.out hb3)
        clear hb3
        go_wp2_with fail
        go_ret2
        exact ⟨ret_bi HE.out.1.symm HE.out.2.symm, HB3.out⟩
end Go.Proofs.YtgibcacciedobaaGreatDoor
end
section
/- Layouts: the first bad shelf; the program's and the reference's. -/
namespace Go.Proofs.YtgibcacciedobaaGreatDoor
open Go.RowKit Go.Proofs.YtgibcacciedobaaGreatDoorW.PrintWords Go.Proofs.YtgibcacciedobaaGreatDoorW.PrintMore
set_option linter.unusedVariables false
set_option linter.unusedSimpArgs false
set_option maxRecDepth 100000

/-- Books from a to before b. -/
def subL (L : List Bk) (a b : Int) : List Bk := (L.take b.toNat).drop a.toNat
theorem subL_sub (L : List Bk) (a b : Int) : (subL L a b).Sublist L := (List.drop_sublist _ _).trans (List.take_sublist _ _)
theorem subL_len {L : List Bk} {a b : Int} (h : b ≤ L.length) : (subL L a b).length = b.toNat - a.toNat := by
  unfold subL
  rw [List.length_drop, List.length_take]
  omega
theorem info_bk' : ∃ i, Tryz.prog.info? 30 = some i ∧ i.size = 8 := by
  have h : (Tryz.prog.info? 30).map (fun i => i.size) = some 8 := by kernel_rfl
  cases e : Tryz.prog.info? 30 with
  | none => rw [e] at h; cases h
  | some i => rw [e] at h; exact ⟨i, rfl, by simpa using h⟩
theorem cut_bk (A : Option Addr) (c : Nat) (L : List Bk) (a b : Int) (h0 : 0 ≤ a) (h1 : a ≤ b) (h2 : b ≤ L.length) (hc : L.length ≤ c) :
    ∃ (A' : Option Addr) (c' : Nat), (∀ W : World, (Instr.slice 24 (.slice A L.length c) (some (.int .i64 a)) (some (.int .i64 b)) none).run Tryz.prog W = .ok (.slice A' (subL L a b).length c') W) ∧ (subL L a b).length ≤ c' ∧ ∀ W : World, kBk.C W A L.length L → kBk.C W A' (subL L a b).length (subL L a b) := by
  obtain ⟨i, hi, hs⟩ := info_bk'
  have hl := subL_len (L := L) (a := a) (b := b) h2
  refine ⟨if c = a.toNat then A else A.map (·.add (a.toNat * 8)), c - a.toNat, fun W => ?_, by rw [hl]; omega, fun W h => ?_⟩
  · rw [hl]
    exact cut_mid 24 30 .i64 .i64 Tryz.underlying24 hi 8 hs A L.length c a b h0 h1 h2 hc W
  · exact Kd.C_mid (c := c) h (by omega) (by omega) hc
/-- The first bad shelf from s on, with books from a on. -/
def badGo (k : Cs) (L : List Bk) (E : List Int) : Nat → Nat → Int → Int
  | 0, _, a => if a = (L.length : Int) ∧ E.length ≤ k.hs.length then -1 else (k.hs.length : Int)
  | g + 1, s, a => if s < E.length ∧ (a ≤ E.getD s 0 ∧ E.getD s 0 ≤ L.length) ∧ fitL k s (subL L a (E.getD s 0)) = true then badGo k L E g (s + 1) (E.getD s 0) else (s : Int)
def badL (k : Cs) (L : List Bk) (E : List Int) : Int := badGo k L E k.hs.length 0 0
theorem badGo_no {k : Cs} {L : List Bk} {E : List Int} {s : Nat} {a : Int} (hs : s < k.hs.length) (h : ¬ (s < E.length ∧ (a ≤ E.getD s 0 ∧ E.getD s 0 ≤ L.length) ∧ fitL k s (subL L a (E.getD s 0)) = true)) : badGo k L E (k.hs.length - s) s a = (s : Int) := by
  obtain ⟨g, hg⟩ : ∃ g, k.hs.length - s = g + 1 := ⟨k.hs.length - s - 1, by omega⟩
  rw [hg, badGo, if_neg h]
theorem badGo_yes {k : Cs} {L : List Bk} {E : List Int} {s : Nat} {a e : Int} (hs : s < k.hs.length) (he : E[s]? = some e) (h1 : a ≤ e) (h2 : e ≤ L.length) (h : fitL k s (subL L a e) = true) : badGo k L E (k.hs.length - s) s a = badGo k L E (k.hs.length - (s + 1)) (s + 1) e := by
  obtain ⟨g, hg⟩ : ∃ g, k.hs.length - s = g + 1 := ⟨k.hs.length - s - 1, by omega⟩
  have hl := (List.getElem?_eq_some_iff.1 he).1
  have hd : E.getD s 0 = e := by rw [List.getD_eq_getElem?_getD, he]; rfl
  rw [hg, badGo, hd, if_pos ⟨hl, ⟨h1, h2⟩, h⟩, show k.hs.length - (s + 1) = g by omega]
theorem badGo_end {k : Cs} {L : List Bk} {E : List Int} (s : Nat) (a : Int) (hs : k.hs.length - s = 0) : badGo k L E (k.hs.length - s) s a = if a = (L.length : Int) ∧ E.length ≤ k.hs.length then -1 else (k.hs.length : Int) := by rw [hs, badGo]
theorem getD_of {E : List Int} {s : Nat} {e : Int} (h : E[s]? = some e) : E.getD s 0 = e := by rw [List.getD_eq_getElem?_getD, h]; rfl
set_option maxHeartbeats 4000000 in
theorem firstBad_c (k : Cs) (A : Option Addr) (c : Nat) (A1 : Option Addr) (c1 : Nat) (L : List Bk) (A2 : Option Addr) (c2 : Nat) (E : List Int) (hok : k.ok) (hoL : OkL L) (hl60 : L.length ≤ 60) (hn12 : k.hs.length ≤ 12) (hc1 : L.length ≤ c1) (w : World) (hC : (Kd.int .i16).C w A k.hs.length k.hs) (hL : kBk.C w A1 L.length L) (hE : (Kd.int .i64).C w A2 E.length E) :
    Calls Tryz.prog 128 #[k.val A c, .slice A1 L.length c1, .slice A2 E.length c2] w (Ret w (.int .i64 (badL k L E))) := by
  have hm := Kd.C_max hC
  have hm1 := Kd.C_max hL
  have hm2 := Kd.C_max hE
  have HC := Aside0.mk hC
  have HL := Aside0.mk hL
  have HE := Aside0.mk hE
  have HOK := Aside0.mk hok
  have HOL := Aside0.mk hoL
  have HB := Aside0.mk (balloc (Below.refl w.heap.size w) (.cells #[.int .i16 k.wd, .int .i32 k.ld, .slice A k.hs.length c] 74))
  have HX := Aside0.mk (CsAt.box w k A c 74)
  have HBAD := Aside0.mk (show badGo k L E (k.hs.length - 0) 0 0 = badL k L E from rfl)
  obtain ⟨y0, y1, y2⟩ := HX.out
  clear hC hL hE hok hoL
  simp only [Cs.val]
  go_enter Tryz.func128, Tryz.ntmps128
  go_wp2_with fail
  clear y0 y1 y2
  generalize HW0E : World.alloc w _ = W0 at HB HX ⊢
  clear HW0E
  go_loopg [7, 15] k.hs.length (fun gk v7 v15 wr => ∃ s : Nat, ∃ a : Int, s + gk = k.hs.length ∧ v15 = .int .i64 s ∧ v7 = .int .i64 a ∧ Aside0 (badGo k L E (k.hs.length - s) s a = badL k L E ∧ 0 ≤ a ∧ a ≤ 60) ∧ Aside0 (Below W0.heap.size W0 wr))
  case atStart => exact ⟨0, 0, by omega, rfl, rfl, ⟨HBAD.out, by decide, by decide⟩, ⟨Below.refl _ _⟩⟩
  case round =>
    clear HBAD
    obtain ⟨s, a, hk, rfl, rfl, hp, hb⟩ := hrel
    have HK := Aside0.mk hk
    have HXr := Aside0.mk (HX.out.below hb.out)
    have HBr := Aside0.mk (HB.out.trans (hb.out.mono HB.out.size))
    obtain ⟨y0, y1, y2⟩ := HXr.out
    have yO0 : ∀ p : Over wr, p.W.cell? ⟨w.heap.size, 0, none⟩ = some (.int .i16 k.wd) := Over.cell y0
    have yO1 : ∀ p : Over wr, p.W.cell? ⟨w.heap.size, 1, none⟩ = some (.int .i32 k.ld) := Over.cell y1
    have yO2 : ∀ p : Over wr, p.W.cell? ⟨w.heap.size, 2, none⟩ = some (.slice A k.hs.length c) := Over.cell y2
    obtain ⟨_, a0, a60⟩ := hp.out
    by_cases hlt : s < k.hs.length
    · clear hk
      have i0 : (0 : Int) ≤ (s : Int) := by omega
      by_cases hse : s < E.length
      · obtain ⟨ad, e, rfl, hbe, hxe⟩ := at_int' (Kd.C_below HE.out HBr.out) s hse
        have hxO : ∀ p : Over wr, p.W.cell? (ad.add s) = some (.int .i64 e) := Over.cell hxe
        have HWI := Aside0.mk (fun W => within64_c e a L.length W)
        have d1 : decide ((E.length : Int) ≤ (s : Int)) = false := decide_eq_false (by omega)
        have d1' : decide (E.length ≤ s) = false := decide_eq_false (by omega)
        have i1 : (s : Int) < (E.length : Int) := by omega
        have hw64 : IntKind.i64.wrap (L.length : Int) = (L.length : Int) := by simp only [IntKind.wrap, IntKind.bits, IntKind.signed, Bool.true_and, decide_eq_true_eq, ge_iff_le]; split <;> omega
        cases v1 : inR e a L.length
        · rw [v1] at HWI
          have HR := Aside0.mk (show badL k L E = (s : Int) by
            rw [← hp.out.1]
            refine badGo_no hlt ?_
            rw [getD_of hbe.out]
            rintro ⟨_, h2, _⟩
            rw [inR_iff.2 h2] at v1
            cases v1)
          clear v1
          go_wp2_with fail
          refine region_over (by kernel_rfl) (by kernel_rfl) ?_
          repeat (go_big_quiet_step (first | (go_at_call 87; exact Calls.over_of ((HWI.out _).mono fun e w' h => h.ret))))
          refine wpQuiet_nil ?_
          intro wq1 hw'
          have hq_wq1 := over_out hw'
          clear hw'
          clear yO0 yO1 yO2 hxO
          have HQ := Aside0.mk (HBr.out.trans (hq_wq1.mono HBr.out.size))
          clear hq_wq1
          go_wp2
          go_ret
          exact ⟨ret_int HR.out.symm, HQ.out⟩
        · obtain ⟨e1, e2⟩ := inR_iff.1 v1
          rw [v1] at HWI
          obtain ⟨A', c', hcut, hc', hCC⟩ := cut_bk A1 c1 L a e a0 e1 e2 hc1
          have HCC := Aside0.mk hCC
          have HF := Aside0.mk (fun W h1 h2 => fits_c k A c s A' c' (subL L a e) HOK.out (fun b hb => HOL.out b ((subL_sub L a e).subset hb)) hlt W h1 h2)
          have HY := Aside0.mk (fun h => badGo_yes (k := k) (L := L) (E := E) (a := a) hlt hbe.out e1 e2 h)
          have HNO := Aside0.mk (fun (h : fitL k s (subL L a e) = false) => badGo_no (k := k) (L := L) (E := E) (a := a) hlt (by
            rw [getD_of hbe.out]
            rintro ⟨_, _, h3⟩
            rw [h] at h3; cases h3))
          simp only [Cs.val] at HF
          generalize fitL k s (subL L a e) = ft at HF HY HNO
          generalize subL L a e = M at HF hcut hc' HCC hCC
          clear v1 hCC
          cases ft
          · have HR := Aside0.mk (show badL k L E = (s : Int) by rw [← hp.out.1]; exact HNO.out rfl)
            clear HY HNO
            go_wp2_with fail
            refine region_over (by kernel_rfl) (by kernel_rfl) ?_
            repeat (go_big_quiet_step (first | (go_at_call 87; exact Calls.over_of ((HWI.out _).mono fun e w' h => h.ret)) | (go_at_call 120; exact Calls.over_of (HF.out _ (Kd.C_below HC.out (HBr.out.trans ((Over.h _).mono HBr.out.size))) (HCC.out _ (Kd.C_below HL.out (HBr.out.trans ((Over.h _).mono HBr.out.size))))))))
            refine wpQuiet_nil ?_
            intro wq1 hw'
            have hq_wq1 := over_out hw'
            clear hw'
            clear yO0 yO1 yO2 hxO hcut
            have HQ := Aside0.mk (HBr.out.trans (hq_wq1.mono HBr.out.size))
            clear hq_wq1
            go_wp2
            go_ret
            exact ⟨ret_int HR.out.symm, HQ.out⟩
          · have HR := Aside0.mk (show badGo k L E (k.hs.length - (s + 1)) (s + 1) e = badL k L E by rw [← hp.out.1]; exact (HY.out rfl).symm)
            clear HY HNO
            go_wp2_with fail
            refine region_over (by kernel_rfl) (by kernel_rfl) ?_
            repeat (go_big_quiet_step (first | (go_at_call 87; exact Calls.over_of ((HWI.out _).mono fun e w' h => h.ret)) | (go_at_call 120; exact Calls.over_of (HF.out _ (Kd.C_below HC.out (HBr.out.trans ((Over.h _).mono HBr.out.size))) (HCC.out _ (Kd.C_below HL.out (HBr.out.trans ((Over.h _).mono HBr.out.size))))))))
            refine wpQuiet_nil ?_
            intro wq1 hw'
            have hq_wq1 := over_out hw'
            clear hw'
            clear yO0 yO1 yO2 hxO hcut y0 y1 y2
            have hx1 : wq1.cell? (ad.add s) = some (.int .i64 e) := pw_cell_below hq_wq1 hxe
            have HQ := Aside0.mk (bstep hb.out hq_wq1)
            clear hq_wq1 hxe
            go_wp2
            go_roundg (gk - 1)
            case measure => have := HK.out; omega
            case rel => exact ⟨s + 1, e, by have := HK.out; omega, by go_num, rfl, ⟨HR.out, by omega, by omega⟩, HQ⟩
      · have HR := Aside0.mk (show badL k L E = (s : Int) by
          rw [← hp.out.1]
          exact badGo_no hlt (fun h => hse h.1))
        have d1 : decide ((E.length : Int) ≤ (s : Int)) = true := decide_eq_true (by omega)
        have d1' : decide (E.length ≤ s) = true := decide_eq_true (by omega)
        go_wp2_with fail
        refine region_over (by kernel_rfl) (by kernel_rfl) ?_
        repeat (go_big_quiet_step (fail))
        refine wpQuiet_nil ?_
        intro wq1 hw'
        have hq_wq1 := over_out hw'
        clear hw'
        clear yO0 yO1 yO2
        have HQ := Aside0.mk (HBr.out.trans (hq_wq1.mono HBr.out.size))
        clear hq_wq1
        go_wp2
        go_ret
        exact ⟨ret_int HR.out.symm, HQ.out⟩
    · have HR := Aside0.mk (show badL k L E = if a = (L.length : Int) ∧ E.length ≤ k.hs.length then -1 else (k.hs.length : Int) by
        rw [← hp.out.1]; exact badGo_end s a (by omega))
      clear hk yO0 yO1 yO2
      by_cases ha : a = (L.length : Int)
      · have b1 : (a != (L.length : Int)) = false := by simp [ha]
        by_cases hle : E.length ≤ k.hs.length
        · have HR2 := Aside0.mk (show badL k L E = -1 by rw [HR.out, if_pos ⟨ha, hle⟩])
          clear HR ha
          go_wp2
          go_ret
          exact ⟨ret_int HR2.out.symm, HBr.out⟩
        · have HR2 := Aside0.mk (show badL k L E = (k.hs.length : Int) by rw [HR.out, if_neg (fun h => hle h.2)])
          clear HR ha
          go_wp2
          go_ret
          exact ⟨ret_int HR2.out.symm, HBr.out⟩
      · have b1 : (a != (L.length : Int)) = true := by simp [ha]
        have HR2 := Aside0.mk (show badL k L E = (k.hs.length : Int) by rw [HR.out, if_neg (fun h => ha h.1)])
        clear HR ha
        go_wp2
        go_ret
        exact ⟨ret_int HR2.out.symm, HBr.out⟩
end Go.Proofs.YtgibcacciedobaaGreatDoor
end
section
/- Layouts: the first bad shelf, the reference's; the codes of layouts; CheckLayout, FirstBadShelf. -/
namespace Go.Proofs.YtgibcacciedobaaGreatDoor
open Go.RowKit Go.Proofs.YtgibcacciedobaaGreatDoorW.PrintWords Go.Proofs.YtgibcacciedobaaGreatDoorW.PrintMore
set_option linter.unusedVariables false
set_option linter.unusedSimpArgs false
set_option maxRecDepth 100000

set_option maxHeartbeats 4000000 in
theorem l02Bad_c (k : Cs) (A : Option Addr) (c : Nat) (p : Addr) (A1 : Option Addr) (c1 : Nat) (L : List Bk) (A2 : Option Addr) (c2 : Nat) (E : List Int) (hok : k.ok) (hfo : FitOk L) (hbd : CsBd k) (hc1 : L.length ≤ c1) (w : World) (hp : CsAt w p k A c) (hC : (Kd.int .i16).C w A k.hs.length k.hs) (hL : kBk.C w A1 L.length L) (hE : (Kd.int .i64).C w A2 E.length E) :
    Calls Tryz.prog 135 #[.pointer (some p), .slice A1 L.length c1, .slice A2 E.length c2] w (Ret w (.int .i64 (badL k L E))) := by
  have hm := Kd.C_max hC
  have hm1 := Kd.C_max hL
  have hm2 := Kd.C_max hE
  have HC := Aside0.mk hC
  have HL := Aside0.mk hL
  have HE := Aside0.mk hE
  have HP := Aside0.mk hp
  have HOK := Aside0.mk hok
  have HFO := Aside0.mk hfo
  have HBD := Aside0.mk hbd
  have hn12 : k.hs.length ≤ 12 := hbd.n.2
  have hl60 : L.length ≤ 60 := hfo.len
  have HBAD := Aside0.mk (show badGo k L E (k.hs.length - 0) 0 0 = badL k L E from rfl)
  obtain ⟨y0, y1, y2⟩ := hp
  clear hC hL hE hok hfo hbd
  go_enter Tryz.func135, Tryz.ntmps135
  go_wp2_with fail
  clear y0 y1 y2
  go_loopg [7, 8] k.hs.length (fun gk v7 v8 wr => ∃ s : Nat, ∃ a : Int, s + gk = k.hs.length ∧ v8 = .int .i64 s ∧ v7 = .int .i64 a ∧ Aside0 (badGo k L E (k.hs.length - s) s a = badL k L E ∧ 0 ≤ a ∧ a ≤ 60) ∧ Aside0 (Below w.heap.size w wr))
  case atStart => exact ⟨0, 0, by omega, rfl, rfl, ⟨HBAD.out, by decide, by decide⟩, ⟨Below.refl _ _⟩⟩
  case round =>
    clear HBAD
    obtain ⟨s, a, hk, rfl, rfl, hp, hb⟩ := hrel
    have HK := Aside0.mk hk
    have HPr := Aside0.mk (HP.out.below hb.out)
    obtain ⟨y0, y1, y2⟩ := HPr.out
    obtain ⟨_, a0, a60⟩ := hp.out
    by_cases hlt : s < k.hs.length
    · clear hk
      have i0 : (0 : Int) ≤ (s : Int) := by omega
      by_cases hse : s < E.length
      · obtain ⟨ad, e, rfl, hbe, hxe⟩ := at_int' (Kd.C_below HE.out hb.out) s hse
        have d1 : decide ((E.length : Int) ≤ (s : Int)) = false := decide_eq_false (by omega)
        have d1' : decide (E.length ≤ s) = false := decide_eq_false (by omega)
        have i1 : (s : Int) < (E.length : Int) := by omega
        by_cases e1 : a ≤ e
        · by_cases e2 : e ≤ L.length
          · obtain ⟨A', c', hcut, hc', hCC⟩ := cut_bk A1 c1 L a e a0 e1 e2 hc1
            have HF := Aside0.mk (l02Free_c k A c s p A' c' (subL L a e) HOK.out (HFO.out.sub (subL_sub L a e)) hlt (HBD.out.h s) wr HPr.out (Kd.C_below HC.out hb.out) (hCC _ (Kd.C_below HL.out hb.out)))
            have HY := Aside0.mk (fun h => badGo_yes (k := k) (L := L) (E := E) (a := a) hlt hbe.out e1 e2 h)
            have HNO := Aside0.mk (fun (h : fitL k s (subL L a e) = false) => badGo_no (k := k) (L := L) (E := E) (a := a) hlt (by
              rw [getD_of hbe.out]
              rintro ⟨_, _, h3⟩
              rw [h] at h3; cases h3))
            rw [← free_iff] at HY HNO
            generalize freeL k s (subL L a e) = ft at HF HY HNO
            generalize subL L a e = M at HF hcut hc' hCC
            clear hCC
            by_cases hft : ft < 0
            · have HR := Aside0.mk (show badL k L E = (s : Int) by rw [← hp.out.1]; exact HNO.out (decide_eq_false (by omega)))
              clear HY HNO
              go_wp2_with fail
              refine HF.out.mono ?_; rintro _ w1 ⟨rfl, hb1⟩
              have HQ := Aside0.mk (bstep hb.out hb1)
              clear hb1 hcut
              go_wp2
              go_ret
              exact ⟨ret_int HR.out.symm, HQ.out⟩
            · have HR := Aside0.mk (show badGo k L E (k.hs.length - (s + 1)) (s + 1) e = badL k L E by rw [← hp.out.1]; exact (HY.out (decide_eq_true (by omega))).symm)
              clear HY HNO
              go_wp2_with fail
              refine HF.out.mono ?_; rintro _ w1 ⟨rfl, hb1⟩
              have HQ := Aside0.mk (bstep hb.out hb1)
              have hx1 : w1.cell? (ad.add s) = some (.int .i64 e) := pw_cell_below hb1 hxe
              clear hb1 hcut hxe y0 y1 y2
              go_wp2
              go_roundg (gk - 1)
              case measure => have := HK.out; omega
              case rel => exact ⟨s + 1, e, by have := HK.out; omega, by go_num, rfl, ⟨HR.out, by omega, by omega⟩, HQ⟩
          · have HR := Aside0.mk (show badL k L E = (s : Int) by
              rw [← hp.out.1]
              refine badGo_no hlt ?_
              rw [getD_of hbe.out]
              rintro ⟨_, h2, _⟩
              exact e2 h2.2)
            go_wp2
            go_ret
            exact ⟨ret_int HR.out.symm, hb.out⟩
        · have HR := Aside0.mk (show badL k L E = (s : Int) by
            rw [← hp.out.1]
            refine badGo_no hlt ?_
            rw [getD_of hbe.out]
            rintro ⟨_, h2, _⟩
            exact e1 h2.1)
          go_wp2
          go_ret
          exact ⟨ret_int HR.out.symm, hb.out⟩
      · have HR := Aside0.mk (show badL k L E = (s : Int) by
          rw [← hp.out.1]
          exact badGo_no hlt (fun h => hse h.1))
        go_wp2
        go_ret
        exact ⟨ret_int HR.out.symm, hb.out⟩
    · have HR := Aside0.mk (show badL k L E = if a = (L.length : Int) ∧ E.length ≤ k.hs.length then -1 else (k.hs.length : Int) by
        rw [← hp.out.1]; exact badGo_end s a (by omega))
      clear hk
      by_cases ha : a = (L.length : Int)
      · have b1 : (a != (L.length : Int)) = false := by simp [ha]
        by_cases hle : E.length ≤ k.hs.length
        · have HR2 := Aside0.mk (show badL k L E = -1 by rw [HR.out, if_pos ⟨ha, hle⟩])
          clear HR ha
          go_wp2
          go_ret
          exact ⟨ret_int HR2.out.symm, hb.out⟩
        · have HR2 := Aside0.mk (show badL k L E = (k.hs.length : Int) by rw [HR.out, if_neg (fun h => hle h.2)])
          clear HR ha
          go_wp2
          go_ret
          exact ⟨ret_int HR2.out.symm, hb.out⟩
      · have b1 : (a != (L.length : Int)) = true := by simp [ha]
        have HR2 := Aside0.mk (show badL k L E = (k.hs.length : Int) by rw [HR.out, if_neg (fun h => ha h.1)])
        clear HR ha
        go_wp2
        go_ret
        exact ⟨ret_int HR2.out.symm, hb.out⟩
/-- The code of a layout. -/
def layC (k : Cs) (L : List Bk) (E : List Int) : Int := if eCL k L = 0 then (if 0 ≤ badL k L E then 8 else 0) else eCL k L
theorem lay_1 {k : Cs} {L : List Bk} {E : List Int} (h : eCL k L = 1) : layC k L E = 1 := by unfold layC; rw [h]; rfl
theorem lay_0 {k : Cs} {L : List Bk} {E : List Int} (h : eCL k L = 0) : layC k L E = if 0 ≤ badL k L E then 8 else 0 := by unfold layC; rw [if_pos h]
theorem eCL_split (k : Cs) (L : List Bk) : (eCL k L = 0 ∧ vCase k = true ∧ vBooks L = true) ∨ eCL k L = 1 := by
  unfold eCL
  by_cases h : (vCase k && vBooks L) = true
  · rw [if_pos h]; left; simpa using h
  · rw [if_neg h]; right; rfl
set_option maxHeartbeats 2000000 in
theorem layoutCode_c (k : Cs) (A : Option Addr) (c : Nat) (A1 : Option Addr) (c1 : Nat) (L : List Bk) (A2 : Option Addr) (c2 : Nat) (E : List Int) (hok : k.ok) (hoL : OkL L) (hc1 : L.length ≤ c1) (w : World) (hC : (Kd.int .i16).C w A k.hs.length k.hs) (hL : kBk.C w A1 L.length L) (hE : (Kd.int .i64).C w A2 E.length E) :
    Calls Tryz.prog 129 #[k.val A c, .slice A1 L.length c1, .slice A2 E.length c2] w (Ret w (.int .i64 (layC k L E))) := by
  have HE2 := Aside0.mk hE
  clear hE
  have hm := Kd.C_max hC
  have hm1 := Kd.C_max hL
  have HC := Aside0.mk hC
  have HL := Aside0.mk hL
  have HVC := Aside0.mk (fun W h => ValidCase_c k A c W h)
  have HVB := Aside0.mk (fun W h => ValidBooks_c A1 c1 L W h)
  have HB := Aside0.mk (balloc (Below.refl w.heap.size w) (.cells #[.int .i16 k.wd, .int .i32 k.ld, .slice A k.hs.length c] 74))
  have HX := Aside0.mk (CsAt.box w k A c 74)
  clear hC hL
  simp only [Cs.val] at HVC ⊢
  cases v1 : vCase k
  · rw [v1] at HVC
    have HE := Aside0.mk (lay_1 (E := E) (eCL_1 (L := L) v1))
    clear v1
    obtain ⟨y0, y1, y2⟩ := HX.out
    go_enter Tryz.func129, Tryz.ntmps129
    go_wp2_with fail
    refine (HVC.out _ (Kd.C_alloc HC.out _)).mono ?_; rintro _ w1 ⟨rfl, hb1⟩
    have HB1 := Aside0.mk (bstep HB.out hb1)
    have HX1 := Aside0.mk (HX.out.below hb1)
    clear hb1 y0 y1 y2
    obtain ⟨y0, y1, y2⟩ := HX1.out
    go_wp2_with fail
    go_ret
    exact ⟨ret_int HE.out.symm, HB1.out⟩
  · rw [v1] at HVC
    cases v2 : vBooks L
    · rw [v2] at HVB
      have HE := Aside0.mk (lay_1 (E := E) (eCL_2 (k := k) v2))
      clear v1 v2
      obtain ⟨y0, y1, y2⟩ := HX.out
      go_enter Tryz.func129, Tryz.ntmps129
      go_wp2_with fail
      refine (HVC.out _ (Kd.C_alloc HC.out _)).mono ?_; rintro _ w1 ⟨rfl, hb1⟩
      have HB1 := Aside0.mk (bstep HB.out hb1)
      have HX1 := Aside0.mk (HX.out.below hb1)
      clear hb1 y0 y1 y2
      obtain ⟨y0, y1, y2⟩ := HX1.out
      go_wp2_with fail
      refine (HVB.out _ (Kd.C_below HL.out HB1.out)).mono ?_; rintro _ w2 ⟨rfl, hb2⟩
      have HB2 := Aside0.mk (bstep HB1.out hb2)
      have HX2 := Aside0.mk (HX1.out.below hb2)
      clear hb2 y0 y1 y2
      obtain ⟨y0, y1, y2⟩ := HX2.out
      go_wp2_with fail
      go_ret
      exact ⟨ret_int HE.out.symm, HB2.out⟩
    · rw [v2] at HVB
      have HV0 := Aside0.mk (eCL_0 v1 v2)
      have HFO := Aside0.mk (FitOk.of v2)
      have HVK := Aside0.mk (vCase_bd v1)
      clear v1 v2
      have HF := Aside0.mk (fun W h1 h2 h3 => firstBad_c k A c A1 c1 L A2 c2 E hok hoL HFO.out.len HVK.out.n.2 hc1 W h1 h2 h3)
      have HR := Aside0.mk (lay_0 (E := E) HV0.out)
      simp only [Cs.val] at HF
      generalize badL k L E = b at HF HR
      by_cases hb : 0 ≤ b
      · rw [if_pos hb] at HR
        obtain ⟨y0, y1, y2⟩ := HX.out
        go_enter Tryz.func129, Tryz.ntmps129
        go_wp2_with fail
        refine (HVC.out _ (Kd.C_alloc HC.out _)).mono ?_; rintro _ w1 ⟨rfl, hb1⟩
        have HB1 := Aside0.mk (bstep HB.out hb1)
        have HX1 := Aside0.mk (HX.out.below hb1)
        clear hb1 y0 y1 y2
        obtain ⟨y0, y1, y2⟩ := HX1.out
        go_wp2_with fail
        refine (HVB.out _ (Kd.C_below HL.out HB1.out)).mono ?_; rintro _ w2 ⟨rfl, hb2⟩
        have HB2 := Aside0.mk (bstep HB1.out hb2)
        have HX2 := Aside0.mk (HX1.out.below hb2)
        clear hb2 y0 y1 y2
        obtain ⟨y0, y1, y2⟩ := HX2.out
        go_wp2_with fail
        refine (HF.out _ (Kd.C_below HC.out HB2.out) (Kd.C_below HL.out HB2.out) (Kd.C_below HE2.out HB2.out)).mono ?_; rintro _ w3 ⟨rfl, hb3⟩
        have HB3 := Aside0.mk (bstep HB2.out hb3)
        clear hb3
        go_wp2_with fail
        go_ret
        exact ⟨ret_int HR.out.symm, HB3.out⟩
      · rw [if_neg hb] at HR
        obtain ⟨y0, y1, y2⟩ := HX.out
        go_enter Tryz.func129, Tryz.ntmps129
        go_wp2_with fail
        refine (HVC.out _ (Kd.C_alloc HC.out _)).mono ?_; rintro _ w1 ⟨rfl, hb1⟩
        have HB1 := Aside0.mk (bstep HB.out hb1)
        have HX1 := Aside0.mk (HX.out.below hb1)
        clear hb1 y0 y1 y2
        obtain ⟨y0, y1, y2⟩ := HX1.out
        go_wp2_with fail
        refine (HVB.out _ (Kd.C_below HL.out HB1.out)).mono ?_; rintro _ w2 ⟨rfl, hb2⟩
        have HB2 := Aside0.mk (bstep HB1.out hb2)
        have HX2 := Aside0.mk (HX1.out.below hb2)
        clear hb2 y0 y1 y2
        obtain ⟨y0, y1, y2⟩ := HX2.out
        go_wp2_with fail
        refine (HF.out _ (Kd.C_below HC.out HB2.out) (Kd.C_below HL.out HB2.out) (Kd.C_below HE2.out HB2.out)).mono ?_; rintro _ w3 ⟨rfl, hb3⟩
        have HB3 := Aside0.mk (bstep HB2.out hb3)
        clear hb3
        go_wp2_with fail
        go_ret
        exact ⟨ret_int HR.out.symm, HB3.out⟩
def clV (k : Cs) (L : List Bk) (E : List Int) : Bool := decide (eCL k L = 0) && decide (badL k L E < 0)
def fbE (k : Cs) (L : List Bk) (E : List Int) : Int := if eCL k L = 0 then (if badL k L E < 0 then 6 else 0) else eCL k L
def fbV (k : Cs) (L : List Bk) (E : List Int) : Int := if fbE k L E = 0 then badL k L E else 0
theorem cl_bad {k : Cs} {L : List Bk} {E : List Int} (h : eCL k L = 1) : clV k L E = false ∧ eCL k L = 1 := ⟨by unfold clV; rw [h]; rfl, h⟩
theorem cl_ok {k : Cs} {L : List Bk} {E : List Int} (h : eCL k L = 0) : clV k L E = decide (badL k L E < 0) ∧ eCL k L = 0 := ⟨by unfold clV; rw [h]; rfl, h⟩
theorem fb_bad {k : Cs} {L : List Bk} {E : List Int} (h : eCL k L = 1) : fbV k L E = 0 ∧ fbE k L E = 1 := by
  have h1 : fbE k L E = 1 := by unfold fbE; rw [h]; rfl
  exact ⟨by unfold fbV; rw [h1]; rfl, h1⟩
theorem fb_ok {k : Cs} {L : List Bk} {E : List Int} (h : eCL k L = 0) : fbV k L E = (if badL k L E < 0 then 0 else badL k L E) ∧ fbE k L E = if badL k L E < 0 then 6 else 0 := by
  have h1 : fbE k L E = if badL k L E < 0 then 6 else 0 := by unfold fbE; rw [if_pos h]
  refine ⟨?_, h1⟩
  unfold fbV
  rw [h1]
  by_cases h2 : badL k L E < 0
  · rw [if_pos h2, if_pos h2]; rfl
  · rw [if_neg h2, if_neg h2]; rfl
set_option maxHeartbeats 2000000 in
theorem CheckLayout_c (k : Cs) (A : Option Addr) (c : Nat) (A1 : Option Addr) (c1 : Nat) (L : List Bk) (A2 : Option Addr) (c2 : Nat) (E : List Int) (hok : k.ok) (hoL : OkL L) (hc1 : L.length ≤ c1) (w : World) (hC : (Kd.int .i16).C w A k.hs.length k.hs) (hL : kBk.C w A1 L.length L) (hE : (Kd.int .i64).C w A2 E.length E) :
    Calls Tryz.prog 56 #[k.val A c, .slice A1 L.length c1, .slice A2 E.length c2] w (Ret w (.tuple #[.bool (clV k L E), .int .i64 (eCL k L)])) := by
  have HE2 := Aside0.mk hE
  clear hE
  have hm := Kd.C_max hC
  have hm1 := Kd.C_max hL
  have HC := Aside0.mk hC
  have HL := Aside0.mk hL
  have HVC := Aside0.mk (fun W h => ValidCase_c k A c W h)
  have HVB := Aside0.mk (fun W h => ValidBooks_c A1 c1 L W h)
  have HB := Aside0.mk (balloc (Below.refl w.heap.size w) (.cells #[.int .i16 k.wd, .int .i32 k.ld, .slice A k.hs.length c] 74))
  have HX := Aside0.mk (CsAt.box w k A c 74)
  clear hC hL
  simp only [Cs.val] at HVC ⊢
  cases v1 : vCase k
  · rw [v1] at HVC
    have HE := Aside0.mk (cl_bad (E := E) (eCL_1 (L := L) v1))
    clear v1
    obtain ⟨y0, y1, y2⟩ := HX.out
    go_enter Tryz.func56, Tryz.ntmps56
    go_wp2_with fail
    refine (HVC.out _ (Kd.C_alloc HC.out _)).mono ?_; rintro _ w1 ⟨rfl, hb1⟩
    have HB1 := Aside0.mk (bstep HB.out hb1)
    have HX1 := Aside0.mk (HX.out.below hb1)
    clear hb1 y0 y1 y2
    obtain ⟨y0, y1, y2⟩ := HX1.out
    go_wp2_with fail
    go_ret2
    exact ⟨ret_bi HE.out.1.symm HE.out.2.symm, HB1.out⟩
  · rw [v1] at HVC
    cases v2 : vBooks L
    · rw [v2] at HVB
      have HE := Aside0.mk (cl_bad (E := E) (eCL_2 (k := k) v2))
      clear v1 v2
      obtain ⟨y0, y1, y2⟩ := HX.out
      go_enter Tryz.func56, Tryz.ntmps56
      go_wp2_with fail
      refine (HVC.out _ (Kd.C_alloc HC.out _)).mono ?_; rintro _ w1 ⟨rfl, hb1⟩
      have HB1 := Aside0.mk (bstep HB.out hb1)
      have HX1 := Aside0.mk (HX.out.below hb1)
      clear hb1 y0 y1 y2
      obtain ⟨y0, y1, y2⟩ := HX1.out
      go_wp2_with fail
      refine (HVB.out _ (Kd.C_below HL.out HB1.out)).mono ?_; rintro _ w2 ⟨rfl, hb2⟩
      have HB2 := Aside0.mk (bstep HB1.out hb2)
      have HX2 := Aside0.mk (HX1.out.below hb2)
      clear hb2 y0 y1 y2
      obtain ⟨y0, y1, y2⟩ := HX2.out
      go_wp2_with fail
      go_ret2
      exact ⟨ret_bi HE.out.1.symm HE.out.2.symm, HB2.out⟩
    · rw [v2] at HVB
      have HV0 := Aside0.mk (eCL_0 v1 v2)
      have HFO := Aside0.mk (FitOk.of v2)
      have HVK := Aside0.mk (vCase_bd v1)
      clear v1 v2
      have HF := Aside0.mk (fun W h1 h2 h3 => firstBad_c k A c A1 c1 L A2 c2 E hok hoL HFO.out.len HVK.out.n.2 hc1 W h1 h2 h3)
      have HR := Aside0.mk (cl_ok (E := E) HV0.out)
      simp only [Cs.val] at HF
      obtain ⟨y0, y1, y2⟩ := HX.out
      go_enter Tryz.func56, Tryz.ntmps56
      go_wp2_with fail
      refine (HVC.out _ (Kd.C_alloc HC.out _)).mono ?_; rintro _ w1 ⟨rfl, hb1⟩
      have HB1 := Aside0.mk (bstep HB.out hb1)
      have HX1 := Aside0.mk (HX.out.below hb1)
      clear hb1 y0 y1 y2
      obtain ⟨y0, y1, y2⟩ := HX1.out
      go_wp2_with fail
      refine (HVB.out _ (Kd.C_below HL.out HB1.out)).mono ?_; rintro _ w2 ⟨rfl, hb2⟩
      have HB2 := Aside0.mk (bstep HB1.out hb2)
      have HX2 := Aside0.mk (HX1.out.below hb2)
      clear hb2 y0 y1 y2
      obtain ⟨y0, y1, y2⟩ := HX2.out
      go_wp2_with fail
      refine (HF.out _ (Kd.C_below HC.out HB2.out) (Kd.C_below HL.out HB2.out) (Kd.C_below HE2.out HB2.out)).mono ?_; rintro _ w3 ⟨rfl, hb3⟩
      have HB3 := Aside0.mk (bstep HB2.out hb3)
      clear hb3
      go_wp2_with fail
      go_ret2
      exact ⟨ret_bi HR.out.1.symm HR.out.2.symm, HB3.out⟩
set_option maxHeartbeats 2000000 in
theorem FirstBadShelf_c (k : Cs) (A : Option Addr) (c : Nat) (A1 : Option Addr) (c1 : Nat) (L : List Bk) (A2 : Option Addr) (c2 : Nat) (E : List Int) (hok : k.ok) (hoL : OkL L) (hc1 : L.length ≤ c1) (w : World) (hC : (Kd.int .i16).C w A k.hs.length k.hs) (hL : kBk.C w A1 L.length L) (hE : (Kd.int .i64).C w A2 E.length E) :
    Calls Tryz.prog 57 #[k.val A c, .slice A1 L.length c1, .slice A2 E.length c2] w (Ret w (.tuple #[.int .i64 (fbV k L E), .int .i64 (fbE k L E)])) := by
  have HE2 := Aside0.mk hE
  clear hE
  have hm := Kd.C_max hC
  have hm1 := Kd.C_max hL
  have HC := Aside0.mk hC
  have HL := Aside0.mk hL
  have HVC := Aside0.mk (fun W h => ValidCase_c k A c W h)
  have HVB := Aside0.mk (fun W h => ValidBooks_c A1 c1 L W h)
  have HB := Aside0.mk (balloc (Below.refl w.heap.size w) (.cells #[.int .i16 k.wd, .int .i32 k.ld, .slice A k.hs.length c] 74))
  have HX := Aside0.mk (CsAt.box w k A c 74)
  clear hC hL
  simp only [Cs.val] at HVC ⊢
  cases v1 : vCase k
  · rw [v1] at HVC
    have HE := Aside0.mk (fb_bad (E := E) (eCL_1 (L := L) v1))
    clear v1
    obtain ⟨y0, y1, y2⟩ := HX.out
    go_enter Tryz.func57, Tryz.ntmps57
    go_wp2_with fail
    refine (HVC.out _ (Kd.C_alloc HC.out _)).mono ?_; rintro _ w1 ⟨rfl, hb1⟩
    have HB1 := Aside0.mk (bstep HB.out hb1)
    have HX1 := Aside0.mk (HX.out.below hb1)
    clear hb1 y0 y1 y2
    obtain ⟨y0, y1, y2⟩ := HX1.out
    go_wp2_with fail
    go_ret2
    exact ⟨ret_two HE.out.1.symm HE.out.2.symm, HB1.out⟩
  · rw [v1] at HVC
    cases v2 : vBooks L
    · rw [v2] at HVB
      have HE := Aside0.mk (fb_bad (E := E) (eCL_2 (k := k) v2))
      clear v1 v2
      obtain ⟨y0, y1, y2⟩ := HX.out
      go_enter Tryz.func57, Tryz.ntmps57
      go_wp2_with fail
      refine (HVC.out _ (Kd.C_alloc HC.out _)).mono ?_; rintro _ w1 ⟨rfl, hb1⟩
      have HB1 := Aside0.mk (bstep HB.out hb1)
      have HX1 := Aside0.mk (HX.out.below hb1)
      clear hb1 y0 y1 y2
      obtain ⟨y0, y1, y2⟩ := HX1.out
      go_wp2_with fail
      refine (HVB.out _ (Kd.C_below HL.out HB1.out)).mono ?_; rintro _ w2 ⟨rfl, hb2⟩
      have HB2 := Aside0.mk (bstep HB1.out hb2)
      have HX2 := Aside0.mk (HX1.out.below hb2)
      clear hb2 y0 y1 y2
      obtain ⟨y0, y1, y2⟩ := HX2.out
      go_wp2_with fail
      go_ret2
      exact ⟨ret_two HE.out.1.symm HE.out.2.symm, HB2.out⟩
    · rw [v2] at HVB
      have HV0 := Aside0.mk (eCL_0 v1 v2)
      have HFO := Aside0.mk (FitOk.of v2)
      have HVK := Aside0.mk (vCase_bd v1)
      clear v1 v2
      have HF := Aside0.mk (fun W h1 h2 h3 => firstBad_c k A c A1 c1 L A2 c2 E hok hoL HFO.out.len HVK.out.n.2 hc1 W h1 h2 h3)
      have HR := Aside0.mk (fb_ok (E := E) HV0.out)
      simp only [Cs.val] at HF
      generalize badL k L E = b at HF HR
      by_cases hb : b < 0
      · rw [if_pos hb, if_pos hb] at HR
        obtain ⟨y0, y1, y2⟩ := HX.out
        go_enter Tryz.func57, Tryz.ntmps57
        go_wp2_with fail
        refine (HVC.out _ (Kd.C_alloc HC.out _)).mono ?_; rintro _ w1 ⟨rfl, hb1⟩
        have HB1 := Aside0.mk (bstep HB.out hb1)
        have HX1 := Aside0.mk (HX.out.below hb1)
        clear hb1 y0 y1 y2
        obtain ⟨y0, y1, y2⟩ := HX1.out
        go_wp2_with fail
        refine (HVB.out _ (Kd.C_below HL.out HB1.out)).mono ?_; rintro _ w2 ⟨rfl, hb2⟩
        have HB2 := Aside0.mk (bstep HB1.out hb2)
        have HX2 := Aside0.mk (HX1.out.below hb2)
        clear hb2 y0 y1 y2
        obtain ⟨y0, y1, y2⟩ := HX2.out
        go_wp2_with fail
        refine (HF.out _ (Kd.C_below HC.out HB2.out) (Kd.C_below HL.out HB2.out) (Kd.C_below HE2.out HB2.out)).mono ?_; rintro _ w3 ⟨rfl, hb3⟩
        have HB3 := Aside0.mk (bstep HB2.out hb3)
        clear hb3
        go_wp2_with fail
        go_ret2
        exact ⟨ret_two HR.out.1.symm HR.out.2.symm, HB3.out⟩
      · rw [if_neg hb, if_neg hb] at HR
        obtain ⟨y0, y1, y2⟩ := HX.out
        go_enter Tryz.func57, Tryz.ntmps57
        go_wp2_with fail
        refine (HVC.out _ (Kd.C_alloc HC.out _)).mono ?_; rintro _ w1 ⟨rfl, hb1⟩
        have HB1 := Aside0.mk (bstep HB.out hb1)
        have HX1 := Aside0.mk (HX.out.below hb1)
        clear hb1 y0 y1 y2
        obtain ⟨y0, y1, y2⟩ := HX1.out
        go_wp2_with fail
        refine (HVB.out _ (Kd.C_below HL.out HB1.out)).mono ?_; rintro _ w2 ⟨rfl, hb2⟩
        have HB2 := Aside0.mk (bstep HB1.out hb2)
        have HX2 := Aside0.mk (HX1.out.below hb2)
        clear hb2 y0 y1 y2
        obtain ⟨y0, y1, y2⟩ := HX2.out
        go_wp2_with fail
        refine (HF.out _ (Kd.C_below HC.out HB2.out) (Kd.C_below HL.out HB2.out) (Kd.C_below HE2.out HB2.out)).mono ?_; rintro _ w3 ⟨rfl, hb3⟩
        have HB3 := Aside0.mk (bstep HB2.out hb3)
        clear hb3
        go_wp2_with fail
        go_ret2
        exact ⟨ret_two HR.out.1.symm HR.out.2.symm, HB3.out⟩
/-- The reference's functions that ask for a case and a list first. -/
theorem box_asked (k : Cs) (A : Option Addr) (c : Nat) (A1 : Option Addr) (c1 : Nat) (L : List Bk) (hok : k.ok) (hoL : OkL L) (w : World) (hC : (Kd.int .i16).C w A k.hs.length k.hs) (hL : kBk.C w A1 L.length L) :
    Calls Tryz.prog 121 #[.pointer (some ⟨w.heap.size, 0, none⟩), .slice A1 L.length c1] (w.alloc (.cells #[.int .i16 k.wd, .int .i32 k.ld, .slice A k.hs.length c] 74)) (Ret (w.alloc (.cells #[.int .i16 k.wd, .int .i32 k.ld, .slice A k.hs.length c] 74)) (.int .i64 (eCL k L))) :=
  l02Asked_c k A c _ A1 c1 L hok hoL _ (CsAt.box w k A c 74) (Kd.C_alloc hC _) (Kd.C_alloc hL _)
set_option maxHeartbeats 2000000 in
theorem specCheckLayout_c (k : Cs) (A : Option Addr) (c : Nat) (A1 : Option Addr) (c1 : Nat) (L : List Bk) (A2 : Option Addr) (c2 : Nat) (E : List Int) (hok : k.ok) (hoL : OkL L) (hc1 : L.length ≤ c1) (w : World) (hC : (Kd.int .i16).C w A k.hs.length k.hs) (hL : kBk.C w A1 L.length L) (hE : (Kd.int .i64).C w A2 E.length E) :
    Calls Tryz.prog 63 #[k.val A c, .slice A1 L.length c1, .slice A2 E.length c2] w (Ret w (.tuple #[.bool (clV k L E), .int .i64 (eCL k L)])) := by
  have HE2 := Aside0.mk hE
  have HA := Aside0.mk (box_asked k A c A1 c1 L hok hoL w hC hL)
  have HC := Aside0.mk hC
  have HL := Aside0.mk hL
  have HB := Aside0.mk (balloc (Below.refl w.heap.size w) (.cells #[.int .i16 k.wd, .int .i32 k.ld, .slice A k.hs.length c] 74))
  have HX := Aside0.mk (CsAt.box w k A c 74)
  clear hC hL hE
  simp only [Cs.val]
  rcases eCL_split k L with ⟨hv, v1, v2⟩ | hv
  · have HF := Aside0.mk (fun p W h0 h1 h2 h3 => l02Bad_c k A c p A1 c1 L A2 c2 E hok (FitOk.of v2) (vCase_bd v1) hc1 W h0 h1 h2 h3)
    have HR := Aside0.mk (cl_ok (E := E) hv)
    rw [hv] at HA
    clear hv v1 v2
    go_enter Tryz.func63, Tryz.ntmps63
    go_wp2_with fail
    refine HA.out.mono ?_; rintro _ w1 ⟨rfl, hb1⟩
    have HB1 := Aside0.mk (bstep HB.out hb1)
    have HX1 := Aside0.mk (HX.out.below hb1)
    clear hb1
    go_wp2_with fail
    refine (HF.out _ _ HX1.out (Kd.C_below HC.out HB1.out) (Kd.C_below HL.out HB1.out) (Kd.C_below HE2.out HB1.out)).mono ?_; rintro _ w3 ⟨rfl, hb3⟩
    have HB3 := Aside0.mk (bstep HB1.out hb3)
    clear hb3
    go_wp2_with fail
    go_ret2
    exact ⟨ret_bi HR.out.1.symm HR.out.2.symm, HB3.out⟩
  · have HR := Aside0.mk (cl_bad (E := E) hv)
    rw [hv] at HA
    clear hv
    go_enter Tryz.func63, Tryz.ntmps63
    go_wp2_with fail
    refine HA.out.mono ?_; rintro _ w1 ⟨rfl, hb1⟩
    have HB1 := Aside0.mk (bstep HB.out hb1)
    clear hb1
    go_wp2_with fail
    go_ret2
    exact ⟨ret_bi HR.out.1.symm (by rw [HR.out.2]), HB1.out⟩
set_option maxHeartbeats 2000000 in
theorem specFirstBadShelf_c (k : Cs) (A : Option Addr) (c : Nat) (A1 : Option Addr) (c1 : Nat) (L : List Bk) (A2 : Option Addr) (c2 : Nat) (E : List Int) (hok : k.ok) (hoL : OkL L) (hc1 : L.length ≤ c1) (w : World) (hC : (Kd.int .i16).C w A k.hs.length k.hs) (hL : kBk.C w A1 L.length L) (hE : (Kd.int .i64).C w A2 E.length E) :
    Calls Tryz.prog 64 #[k.val A c, .slice A1 L.length c1, .slice A2 E.length c2] w (Ret w (.tuple #[.int .i64 (fbV k L E), .int .i64 (fbE k L E)])) := by
  have HE2 := Aside0.mk hE
  have HA := Aside0.mk (box_asked k A c A1 c1 L hok hoL w hC hL)
  have HC := Aside0.mk hC
  have HL := Aside0.mk hL
  have HB := Aside0.mk (balloc (Below.refl w.heap.size w) (.cells #[.int .i16 k.wd, .int .i32 k.ld, .slice A k.hs.length c] 74))
  have HX := Aside0.mk (CsAt.box w k A c 74)
  clear hC hL hE
  simp only [Cs.val]
  rcases eCL_split k L with ⟨hv, v1, v2⟩ | hv
  · have HF := Aside0.mk (fun p W h0 h1 h2 h3 => l02Bad_c k A c p A1 c1 L A2 c2 E hok (FitOk.of v2) (vCase_bd v1) hc1 W h0 h1 h2 h3)
    have HR := Aside0.mk (fb_ok (E := E) hv)
    rw [hv] at HA
    clear hv v1 v2
    generalize badL k L E = b at HF HR
    by_cases hb : b < 0
    · rw [if_pos hb, if_pos hb] at HR
      go_enter Tryz.func64, Tryz.ntmps64
      go_wp2_with fail
      refine HA.out.mono ?_; rintro _ w1 ⟨rfl, hb1⟩
      have HB1 := Aside0.mk (bstep HB.out hb1)
      have HX1 := Aside0.mk (HX.out.below hb1)
      clear hb1
      go_wp2_with fail
      refine (HF.out _ _ HX1.out (Kd.C_below HC.out HB1.out) (Kd.C_below HL.out HB1.out) (Kd.C_below HE2.out HB1.out)).mono ?_; rintro _ w3 ⟨rfl, hb3⟩
      have HB3 := Aside0.mk (bstep HB1.out hb3)
      clear hb3
      go_wp2_with fail
      go_ret2
      exact ⟨ret_two HR.out.1.symm HR.out.2.symm, HB3.out⟩
    · rw [if_neg hb, if_neg hb] at HR
      go_enter Tryz.func64, Tryz.ntmps64
      go_wp2_with fail
      refine HA.out.mono ?_; rintro _ w1 ⟨rfl, hb1⟩
      have HB1 := Aside0.mk (bstep HB.out hb1)
      have HX1 := Aside0.mk (HX.out.below hb1)
      clear hb1
      go_wp2_with fail
      refine (HF.out _ _ HX1.out (Kd.C_below HC.out HB1.out) (Kd.C_below HL.out HB1.out) (Kd.C_below HE2.out HB1.out)).mono ?_; rintro _ w3 ⟨rfl, hb3⟩
      have HB3 := Aside0.mk (bstep HB1.out hb3)
      clear hb3
      go_wp2_with fail
      go_ret2
      exact ⟨ret_two HR.out.1.symm HR.out.2.symm, HB3.out⟩
  · have HR := Aside0.mk (fb_bad (E := E) hv)
    rw [hv] at HA
    clear hv
    go_enter Tryz.func64, Tryz.ntmps64
    go_wp2_with fail
    refine HA.out.mono ?_; rintro _ w1 ⟨rfl, hb1⟩
    have HB1 := Aside0.mk (bstep HB.out hb1)
    clear hb1
    go_wp2_with fail
    go_ret2
    exact ⟨ret_two HR.out.1.symm HR.out.2.symm, HB1.out⟩
end Go.Proofs.YtgibcacciedobaaGreatDoor
end
section
/- Books stand on shelves: WhereIs, BookAt; the program's and the reference's; Books stand on shelves: BookAt, ShelfOfClass; the program's and the reference's; ShelfOfClass: the program's and the reference's; MovedBooks: the program's and the reference's. -/
namespace Go.Proofs.YtgibcacciedobaaGreatDoor
open Go.RowKit Go.Proofs.YtgibcacciedobaaGreatDoorW.PrintWords Go.Proofs.YtgibcacciedobaaGreatDoorW.PrintMore
set_option linter.unusedVariables false
set_option linter.unusedSimpArgs false
set_option maxRecDepth 100000

/-- How many books stand ahead of a shelf. -/
def bef (E : List Int) (s : Nat) : Int := if s = 0 then 0 else E.getD (s - 1) 0
theorem badGo_neg {k : Cs} {L : List Bk} {E : List Int} : ∀ (g s : Nat) (a : Int), badGo k L E g s a < 0 →
    (∀ j, s ≤ j → j < s + g → j < E.length ∧ ((if j = s then a else E.getD (j - 1) 0) ≤ E.getD j 0 ∧ E.getD j 0 ≤ L.length) ∧ fitL k j (subL L (if j = s then a else E.getD (j - 1) 0) (E.getD j 0)) = true) ∧
    (if g = 0 then a else E.getD (s + g - 1) 0) = L.length ∧ E.length ≤ k.hs.length
  | 0, s, a, h => by
    rw [badGo] at h
    split at h
    · rename_i h1
      exact ⟨fun j h2 h3 => by omega, by rw [if_pos rfl]; exact h1.1, h1.2⟩
    · omega
  | g + 1, s, a, h => by
    rw [badGo] at h
    split at h
    · rename_i h1
      obtain ⟨h2, h3, h4⟩ := badGo_neg g (s + 1) _ h
      refine ⟨fun j h5 h6 => ?_, ?_, h4⟩
      · by_cases e : j = s
        · subst e
          rw [if_pos rfl]
          exact h1
        · rw [if_neg e]
          have h7 := h2 j (by omega) (by omega)
          by_cases e2 : j = s + 1
          · subst e2
            rw [if_pos rfl] at h7
            simpa using h7
          · rw [if_neg e2] at h7
            exact h7
      · rw [if_neg (by omega)]
        by_cases e : g = 0
        · subst e
          rw [if_pos rfl] at h3
          simpa using h3
        · rw [if_neg e] at h3
          rw [← h3]
          congr 1
          omega
    · omega
structure LayP (k : Cs) (L : List Bk) (E : List Int) : Prop where
  n : E.length = k.hs.length
  s : ∀ j, j < E.length → (bef E j ≤ E.getD j 0 ∧ E.getD j 0 ≤ L.length) ∧ fitL k j (subL L (bef E j) (E.getD j 0)) = true
  last : bef E E.length = L.length
  case : vCase k = true
  list : vBooks L = true
theorem layP_of {k : Cs} {L : List Bk} {E : List Int} (h : layC k L E = 0) : LayP k L E := by
  unfold layC at h
  rcases eCL_split k L with ⟨hv, v1, v2⟩ | hv
  · rw [if_pos hv] at h
    split at h
    · cases h
    · rename_i hb
      have hb2 : badGo k L E k.hs.length 0 0 < 0 := by unfold badL at hb; omega
      obtain ⟨h1, h2, h3⟩ := badGo_neg _ _ _ hb2
      have hn := (vCase_bd v1).n.1
      have hlen : E.length = k.hs.length := by
        have := (h1 (k.hs.length - 1) (by omega) (by omega)).1
        omega
      refine ⟨hlen, fun j hj => ?_, ?_, v1, v2⟩
      · have := (h1 j (by omega) (by omega)).2
        unfold bef
        exact this
      · unfold bef
        rw [hlen, if_neg (by omega)]
        rw [if_neg (by omega)] at h2
        rw [← h2]
        congr 1
        omega
  · rw [hv] at h; cases h
theorem LayP.mono {k : Cs} {L : List Bk} {E : List Int} (h : LayP k L E) (d : Nat) : ∀ j, j + d ≤ E.length → bef E j ≤ bef E (j + d) := by
  induction d with
  | zero => intro j _; exact Int.le_refl _
  | succ d ih =>
    intro j hj
    have h1 := ih j (by omega)
    have h2 := (h.s (j + d) (by omega)).1.1
    have h3 : bef E (j + (d + 1)) = E.getD (j + d) 0 := by unfold bef; rw [if_neg (by omega)]; rfl
    omega
theorem LayP.nn {k : Cs} {L : List Bk} {E : List Int} (h : LayP k L E) (j : Nat) (hj : j ≤ E.length) : 0 ≤ bef E j ∧ bef E j ≤ L.length := by
  have h1 := h.mono j 0 (by omega)
  have h2 := h.mono (E.length - j) j (by omega)
  rw [show j + (E.length - j) = E.length by omega, h.last] at h2
  rw [Nat.zero_add] at h1
  exact ⟨h1, h2⟩
theorem bef_succ {E : List Int} {s : Nat} {e : Int} (h : E[s]? = some e) : bef E (s + 1) = e := by unfold bef; rw [if_neg (by omega)]; exact getD_of h
theorem LayP.any {k : Cs} {L : List Bk} {E : List Int} (h : LayP k L E) {b : Int} (hb : b < L.length) (h0 : 0 ≤ b) : ∃ e, e ∈ E ∧ b < e := by
  have h1 := h.last
  have hn := (vCase_bd h.case).n.1
  have hl : 0 < E.length := by have := h.n; omega
  obtain ⟨e, he⟩ : ∃ e, E[E.length - 1]? = some e := ⟨_, List.getElem?_eq_getElem (by omega)⟩
  have h3 := bef_succ he
  rw [show E.length - 1 + 1 = E.length by omega, h1] at h3
  exact ⟨e, mem_of he, by omega⟩
theorem sh_lt {E : List Int} {b : Int} (h : ∃ e, e ∈ E ∧ b < e) : shOf E b < E.length := by
  obtain ⟨e, he, hb⟩ := h
  exact List.findIdx_lt_length_of_exists ⟨e, he, decide_eq_true hb⟩
theorem sh_bef {E : List Int} {b : Int} (h0 : 0 ≤ b) : bef E (shOf E b) ≤ b ∨ E.length < shOf E b := by
  unfold bef
  by_cases hs : shOf E b = 0
  · rw [if_pos hs]; left; exact h0
  · rw [if_neg hs]
    left
    have hle : shOf E b ≤ E.length := List.findIdx_le_length
    have h1 : shOf E b - 1 < E.length := by omega
    have h2 : (decide (b < E[shOf E b - 1])) = false := by
      have := List.not_of_lt_findIdx (p := fun e => decide (b < e)) (xs := E) (i := shOf E b - 1) (by show shOf E b - 1 < shOf E b; omega)
      simpa using this
    rw [List.getD_eq_getElem?_getD, List.getElem?_eq_getElem h1]
    have := of_decide_eq_false h2
    show E[shOf E b - 1] ≤ b
    omega
set_option maxHeartbeats 1000000 in
theorem before_c (A : Option Addr) (c : Nat) (E : List Int) (s : Nat) (hs : s ≤ E.length) (w : World) (hE : (Kd.int .i64).C w A E.length E) :
    Calls Tryz.prog 171 #[.slice A E.length c, .int .i64 s] w (RetS w (.int .i64 (bef E s))) := by
  have hm := Kd.C_max hE
  by_cases h0 : s = 0
  · have HR := Aside0.mk (show bef E s = 0 by unfold bef; rw [if_pos h0])
    have b0 : ((s : Int) == 0) = true := by simp [h0]
    clear h0
    go_enter Tryz.func171, Tryz.ntmps171
    go_wp2
    go_ret
    exact ⟨ret_int HR.out.symm, rfl⟩
  · obtain ⟨ad, x, rfl, hbk, hx⟩ := at_int' hE (s - 1) (by omega)
    have HR := Aside0.mk (show bef E s = x by unfold bef; rw [if_neg h0]; exact getD_of hbk.out)
    have b0 : ((s : Int) == 0) = false := by simpa using h0
    have iw := wrap_pred s (by omega)
    have it : ((s : Int) - 1).toNat = s - 1 := by omega
    have i1 : (1 : Int) ≤ (s : Int) := by omega
    have i2 : (s : Int) < (E.length : Int) + 1 := by omega
    have i3 : (s : Int) - 1 < (E.length : Int) := by omega
    clear h0
    go_enter Tryz.func171, Tryz.ntmps171
    go_wp2
    go_ret
    exact ⟨ret_int HR.out.symm, rfl⟩
/-- The width of the books from a to before b. -/
def wdS (L : List Bk) (a b : Int) : Int := (totL (subL L a b)).x
theorem subL_snoc {L : List Bk} {a : Int} {i : Nat} {x : Bk} (h0 : 0 ≤ a) (h1 : a ≤ i) (hx : L[i]? = some x) : subL L a ((i : Int) + 1) = subL L a i ++ [x] := by
  unfold subL
  rw [show ((i : Int) + 1).toNat = i + 1 by omega, Int.toNat_natCast, take_snoc hx]
  have hl := (List.getElem?_eq_some_iff.1 hx).1
  rw [List.drop_append_of_le_length (by rw [List.length_take]; omega)]
theorem tot_snoc (M : List Bk) (x : Bk) : totL (M ++ [x]) = (totL M).step x := by unfold totL; rw [List.foldl_append]; rfl
theorem wdS_nil {L : List Bk} {a : Int} : wdS L a a = 0 := by unfold wdS subL; rw [List.drop_eq_nil_of_le (by rw [List.length_take]; omega)]; rfl
theorem wdS_bd {L : List Bk} (h : FitOk L) (a b : Int) : 0 ≤ wdS L a b ∧ wdS L a b ≤ 6000 := by
  have h1 := h.sub (subL_sub L a b)
  have h2 := (h1.tot (subL L a b).length (Nat.le_refl _)).1
  rw [List.take_length] at h2
  have := h1.len
  unfold wdS
  omega
theorem wdS_step {L : List Bk} (h : FitOk L) {a : Int} {i : Nat} {x : Bk} (h0 : 0 ≤ a) (h1 : a ≤ i) (hx : L[i]? = some x) : wdS L a ((i : Int) + 1) = wdS L a i + x.wd := by
  have hb := wdS_bd h a i
  have hx2 := (h.bk x (mem_of hx)).1
  unfold wdS at hb ⊢
  rw [subL_snoc h0 h1 hx, tot_snoc]
  generalize totL (subL L a i) = t at hb
  simp only [T3.step]
  unfold wrap64
  omega
/-- Where a book stands. -/
def whC (k : Cs) (L : List Bk) (E : List Int) (b : Int) : Int := if layC k L E = 0 then (if inR b 0 ((L.length : Int) - 1) = true then 0 else 2) else layC k L E
def whS (k : Cs) (L : List Bk) (E : List Int) (b : Int) : Int := if whC k L E b = 0 then (shOf E b : Nat) else 0
def whP (k : Cs) (L : List Bk) (E : List Int) (b : Int) : Int := if whC k L E b = 0 then wdS L (bef E (shOf E b)) b else 0
theorem wh_bad {k : Cs} {L : List Bk} {E : List Int} {b e : Int} (h : whC k L E b = e) (he : e ≠ 0) : whS k L E b = 0 ∧ whP k L E b = 0 ∧ whC k L E b = e := ⟨by unfold whS; rw [h, if_neg he], by unfold whP; rw [h, if_neg he], h⟩
theorem wh_ok {k : Cs} {L : List Bk} {E : List Int} {b : Int} (h : whC k L E b = 0) : whS k L E b = (shOf E b : Nat) ∧ whP k L E b = wdS L (bef E (shOf E b)) b ∧ whC k L E b = 0 := ⟨by unfold whS; rw [h, if_pos rfl], by unfold whP; rw [h, if_pos rfl], h⟩
theorem info_i64' : ∃ i, Tryz.prog.info? 2 = some i ∧ i.size = 1 := by
  have h : (Tryz.prog.info? 2).map (fun i => i.size) = some 1 := by kernel_rfl
  cases e : Tryz.prog.info? 2 with
  | none => rw [e] at h; cases h
  | some i => rw [e] at h; exact ⟨i, rfl, by simpa using h⟩
set_option maxHeartbeats 1000000 in
theorem arr3_fst (x y z : Int) : ∀ W : World, (Instr.index 45 (.agg #[.int .i64 x, .int .i64 y, .int .i64 z]) (.int .i64 0)).run Tryz.prog W = .ok (.int .i64 x) W := by
  intro W
  obtain ⟨i, hi, hs⟩ := info_i64'
  simp [go_sem, Instr.index, Tryz.underlying45, hi, hs]
/-- The book that covers a place, -1 if none does: g books from i on, with width q ahead of them. -/
def baGo (L : List Bk) (pl : Int) : Nat → Nat → Int → Int
  | 0, _, _ => -1
  | g + 1, i, q => if pl < q + (L.getD i zBk).wd then (i : Int) else baGo L pl g (i + 1) (q + (L.getD i zBk).wd)
theorem baGo_hit {L : List Bk} {pl q : Int} {g i : Nat} {b : Bk} (hg : 0 < g) (hb : L[i]? = some b) (h : pl < q + b.wd) : baGo L pl g i q = (i : Int) := by
  match g, hg with
  | g + 1, _ => rw [baGo, List.getD_eq_getElem?_getD, hb]; exact if_pos h
theorem baGo_next {L : List Bk} {pl q : Int} {g i : Nat} {b : Bk} (hg : 0 < g) (hb : L[i]? = some b) (h : ¬ pl < q + b.wd) : baGo L pl g i q = baGo L pl (g - 1) (i + 1) (q + b.wd) := by
  match g, hg with
  | g + 1, _ => rw [baGo, List.getD_eq_getElem?_getD, hb]; exact if_neg h
def baR (L : List Bk) (E : List Int) (s : Nat) (pl : Int) : Int := baGo L pl (E.getD s 0 - bef E s).toNat (bef E s).toNat 0
def baIn (k : Cs) (sh pl : Int) : Bool := inR sh 0 ((k.hs.length : Int) - 1) && inR pl 0 (k.wd - 1)
def baC (k : Cs) (L : List Bk) (E : List Int) (sh pl : Int) : Int := if layC k L E = 0 then (if baIn k sh pl = true then (if baR L E sh.toNat pl < 0 then 6 else 0) else 2) else layC k L E
def baV (k : Cs) (L : List Bk) (E : List Int) (sh pl : Int) : Int := if baC k L E sh pl = 0 then baR L E sh.toNat pl else 0
theorem ba_bad {k : Cs} {L : List Bk} {E : List Int} {sh pl e : Int} (h : baC k L E sh pl = e) (he : e ≠ 0) : baV k L E sh pl = 0 ∧ baC k L E sh pl = e := ⟨by unfold baV; rw [h, if_neg he], h⟩
theorem ba_ok {k : Cs} {L : List Bk} {E : List Int} {sh pl r : Int} (h1 : layC k L E = 0) (h2 : baIn k sh pl = true) (hr : baR L E sh.toNat pl = r) : baV k L E sh pl = (if r < 0 then 0 else r) ∧ baC k L E sh pl = (if r < 0 then 6 else 0) := by
  have h3 : baC k L E sh pl = if r < 0 then 6 else 0 := by unfold baC; rw [if_pos h1, if_pos h2, hr]
  refine ⟨?_, h3⟩
  unfold baV
  rw [h3]
  by_cases h4 : r < 0
  · rw [if_pos h4, if_pos h4]; rfl
  · rw [if_neg h4, if_neg h4, if_pos rfl, hr]
theorem ba_hit {k : Cs} {L : List Bk} {E : List Int} {sh pl : Int} {i : Nat} (h : ∀ r, baR L E sh.toNat pl = r → baV k L E sh pl = (if r < 0 then 0 else r) ∧ baC k L E sh pl = (if r < 0 then 6 else 0)) (hr : baR L E sh.toNat pl = (i : Int)) : baV k L E sh pl = (i : Int) ∧ baC k L E sh pl = 0 := by
  have := h _ hr
  rw [if_neg (by omega), if_neg (by omega)] at this
  exact this
theorem ba_none {k : Cs} {L : List Bk} {E : List Int} {sh pl : Int} (h : ∀ r, baR L E sh.toNat pl = r → baV k L E sh pl = (if r < 0 then 0 else r) ∧ baC k L E sh pl = (if r < 0 then 6 else 0)) (hr : baR L E sh.toNat pl = -1) : baV k L E sh pl = 0 ∧ baC k L E sh pl = 6 := by
  have := h _ hr
  rw [if_pos (by decide), if_pos (by decide)] at this
  exact this
theorem sh_mono (E : List Int) {i j : Int} (h : i ≤ j) : shOf E i ≤ shOf E j := by
  unfold shOf
  induction E with
  | nil => exact Nat.le_refl _
  | cons e E ih =>
    rw [List.findIdx_cons, List.findIdx_cons]
    by_cases h1 : i < e
    · rw [decide_eq_true h1]; exact Nat.zero_le _
    · rw [decide_eq_false h1, decide_eq_false (by omega)]
      simpa using ih
/-- The first and the last shelf with a book of a class among the first n books. -/
def scP (L : List Bk) (E : List Int) (cl : Int) : Nat → Int × Int
  | 0 => (-1, -1)
  | n + 1 => if (L.getD n zBk).c = cl then (if (scP L E cl n).1 < 0 then ((shOf E n : Nat) : Int) else (scP L E cl n).1, ((shOf E n : Nat) : Int)) else scP L E cl n
theorem scP_no {L : List Bk} {E : List Int} {cl : Int} {n : Nat} {b : Bk} (h : L[n]? = some b) (hc : ¬ b.c = cl) : scP L E cl (n + 1) = scP L E cl n := by
  rw [scP, List.getD_eq_getElem?_getD, h]; exact if_neg hc
theorem scP_yes {L : List Bk} {E : List Int} {cl : Int} {n : Nat} {b : Bk} (h : L[n]? = some b) (hc : b.c = cl) : scP L E cl (n + 1) = (if (scP L E cl n).1 < 0 then ((shOf E n : Nat) : Int) else (scP L E cl n).1, ((shOf E n : Nat) : Int)) := by
  rw [scP, List.getD_eq_getElem?_getD, h]; exact if_pos hc
theorem scP_inv (L : List Bk) (E : List Int) (cl : Int) (n : Nat) : (scP L E cl n).1 = -1 ∧ (scP L E cl n).2 = -1 ∨ 0 ≤ (scP L E cl n).1 ∧ (scP L E cl n).1 ≤ (scP L E cl n).2 ∧ ∃ i : Nat, i < n ∧ (scP L E cl n).2 = (shOf E i : Nat) := by
  induction n with
  | zero => left; exact ⟨rfl, rfl⟩
  | succ n ih =>
    rw [scP]
    by_cases hc : (L.getD n zBk).c = cl
    · rw [if_pos hc]
      right
      rcases ih with ⟨h1, h2⟩ | ⟨h1, h2, i, hi, h3⟩
      · rw [h1, if_pos (by decide)]
        exact ⟨by simp, by simp, n, by omega, rfl⟩
      · rw [if_neg (by omega)]
        have := sh_mono E (i := (i : Int)) (j := (n : Int)) (by omega)
        exact ⟨h1, by simp only []; omega, n, by omega, rfl⟩
    · rw [if_neg hc]
      rcases ih with h | ⟨h1, h2, i, hi, h3⟩
      · exact .inl h
      · exact .inr ⟨h1, h2, i, by omega, h3⟩
theorem scP_le (L : List Bk) (E : List Int) (cl : Int) (n : Nat) : -1 ≤ (scP L E cl n).1 ∧ (scP L E cl n).1 ≤ (scP L E cl n).2 ∧ (scP L E cl n).2 ≤ E.length := by
  rcases scP_inv L E cl n with ⟨h1, h2⟩ | ⟨h1, h2, i, hi, h3⟩
  · omega
  · have : shOf E i ≤ E.length := List.findIdx_le_length
    omega
def scC (k : Cs) (L : List Bk) (E : List Int) (cl : Int) : Int := if layC k L E = 0 then (if (scP L E cl L.length).2 < 0 then 6 else 0) else layC k L E
def scF (k : Cs) (L : List Bk) (E : List Int) (cl : Int) : Int := if scC k L E cl = 0 then (scP L E cl L.length).1 else 0
def scL (k : Cs) (L : List Bk) (E : List Int) (cl : Int) : Int := if scC k L E cl = 0 then (scP L E cl L.length).2 else 0
theorem sc_bad {k : Cs} {L : List Bk} {E : List Int} {cl e : Int} (h : scC k L E cl = e) (he : e ≠ 0) : scF k L E cl = 0 ∧ scL k L E cl = 0 ∧ scC k L E cl = e := ⟨by unfold scF; rw [h, if_neg he], by unfold scL; rw [h, if_neg he], h⟩
theorem sc_none {k : Cs} {L : List Bk} {E : List Int} {cl f l : Int} (h : layC k L E = 0) (hp : scP L E cl L.length = (f, l)) (hl : l < 0) : scF k L E cl = 0 ∧ scL k L E cl = 0 ∧ scC k L E cl = 6 := sc_bad (by unfold scC; rw [if_pos h, hp]; exact if_pos hl) (by decide)
theorem sc_some {k : Cs} {L : List Bk} {E : List Int} {cl f l : Int} (h : layC k L E = 0) (hp : scP L E cl L.length = (f, l)) (hl : ¬ l < 0) : scF k L E cl = f ∧ scL k L E cl = l ∧ scC k L E cl = 0 := by
  have h1 : scC k L E cl = 0 := by unfold scC; rw [if_pos h, hp]; exact if_neg hl
  exact ⟨by unfold scF; rw [h1, if_pos rfl, hp], by unfold scL; rw [h1, if_pos rfl, hp], h1⟩
/-- How many of the first m books stand on different shelves. -/
def mvCnt (a b : List Int) : Nat → Nat
  | 0 => 0
  | m + 1 => mvCnt a b m + (if shOf a m = shOf b m then 0 else 1)
theorem mvCnt_le (a b : List Int) (m : Nat) : mvCnt a b m ≤ m := by
  induction m with
  | zero => exact Nat.le_refl _
  | succ m ih => rw [mvCnt]; split <;> omega
def lastOf (L : List Int) : Int := L.getLastD 0
theorem lastOf_at {L : List Int} {x : Int} (h : L[L.length - 1]? = some x) : lastOf L = x := by
  unfold lastOf
  rw [List.getLastD_eq_getLast?, List.getLast?_eq_getElem?, h]
  rfl
def mbE (a b : List Int) : Int := if a.length = b.length then (if (grow a && grow b) = true then (if a.length = 0 then 0 else if lastOf a = lastOf b then 0 else 2) else 2) else 4
def mbV (a b : List Int) : Int := if mbE a b = 0 then (if a.length = 0 then 0 else (mvCnt a b (lastOf a).toNat : Nat)) else 0
theorem mb_bad {a b : List Int} {e : Int} (h : mbE a b = e) (he : e ≠ 0) : mbV a b = 0 ∧ mbE a b = e := ⟨by unfold mbV; rw [h, if_neg he], h⟩
theorem grow_last {L : List Int} {x : Int} (h : grow L = true) (hx : L[L.length - 1]? = some x) : 0 ≤ x ∧ x ≤ 60 := by
  have := ((grF_iff L 0).1 h).2 x (mem_of hx)
  exact this
theorem mb_nil : mbV [] [] = 0 ∧ mbE [] [] = 0 := by
  have h : mbE [] [] = 0 := by unfold mbE grow grF; rfl
  exact ⟨by unfold mbV; rw [if_pos h]; rfl, h⟩
end Go.Proofs.YtgibcacciedobaaGreatDoor
end
