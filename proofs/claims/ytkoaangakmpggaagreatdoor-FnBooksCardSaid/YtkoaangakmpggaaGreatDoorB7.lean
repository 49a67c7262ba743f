/- Texts of this proof that belong together: Laid, LaidR, Open, OpenU. No condition. -/
import Derived.Test.YtkoaangakmpggaaGreatDoorB6
import Derived.Test.YtkoaangakmpggaaGreatDoorRows
import Derived.LaidLaws
import Derived.LaidMore
import Derived.MakeChecks
import Derived.Stop.LaidErr
import Derived.Stop.Joined
import Derived.Lib.LaidTab
import Derived.ProofKit
import Derived.Shelf.Vars
import Derived.OpenShut
import Derived.Deep.Slices
import Derived.ChangeOld
import Derived.Carry
section
/- The start that the program's own initialisers leave: the listed variables lie as the rows say. -/
namespace Go.Proofs.YtkoaangakmpggaaGreatDoor
open Go.RowKit Go.Proofs.YtkoaangakmpggaaGreatDoorW.PrintWords Go.Proofs.YtkoaangakmpggaaGreatDoorW.PrintMore
set_option linter.unusedVariables false
set_option linter.unusedSimpArgs false
set_option maxRecDepth 100000

noncomputable def startWorld (os : Os) : World := World.doorLaid Tryz.prog 72 os
theorem powD : Rows.laid_internal_strconv_uint64pow10 (H := Unit) = Lib.tabData .u64 Lib.pow10Tab := by kernel_rfl
theorem tPow : (Tryz.prog.globals[1]?).map (·.type) = some 165 := by kernel_rfl
theorem cPow : Tryz.prog.cellsOf 165 = 20 := by kernel_rfl
theorem cU64 : Tryz.prog.cellsOf 80 = 1 := by kernel_rfl
abbrev laid3 : List (String × DataW Unit) := [("math/bits.deBruijn32tab", Rows.laid_math_bits_deBruijn32tab), ("math/bits.deBruijn64tab", Rows.laid_math_bits_deBruijn64tab), ("internal/strconv.uint64pow10", Rows.laid_internal_strconv_uint64pow10)]
set_option maxRecDepth 100000 in
theorem start_met (os : Os) (args : Array Value) : laidMetH Tryz.prog laid3 ((startWorld os).forCall (fun _ _ => 0) ⟨#[], args, []⟩).memory := by
  rw [MakeChecks.laidMetH_plain _ _ _ (by kernel_rfl)]
  exact laidMet_of_run' 8 (by kernel_rfl) (by kernel_rfl)
theorem start_tab {W : World} (h : laidMetH Tryz.prog laid3 W) : Tab W := by
  rw [MakeChecks.laidMetH_plain _ _ _ (by kernel_rfl)] at h
  have h2 := h.tail.tail
  rw [powD] at h2
  exact Lib.tabIs_of_head gPow tPow Tryz.underlying165 Tryz.underlying80 cU64 cPow h2
end Go.Proofs.YtkoaangakmpggaaGreatDoor
end
section
/- The start of a law that reads texts: the seven listed variables. -/
namespace Go.Proofs.YtkoaangakmpggaaGreatDoor
open Go.RowKit Go.Proofs.YtkoaangakmpggaaGreatDoorW.PrintWords Go.Proofs.YtkoaangakmpggaaGreatDoorW.PrintMore
set_option linter.unusedVariables false
set_option linter.unusedSimpArgs false
set_option maxRecDepth 100000

def firstRow (o : Obj) : Obj := match o with | .cells _ a b => .cells (Go.Pinned.utf8FirstZ.map (fun n : Nat => Value.int .u8 (n : Int))).toArray a b | o => o
noncomputable def startWorld7 (os : Os) : World := { World.doorLaid Tryz.prog 72 os with heap := (World.doorLaid Tryz.prog 72 os).heap.modify 2 firstRow }
abbrev laid7 : List (String × DataW Unit) := [("math/bits.deBruijn32tab", Rows.laid_math_bits_deBruijn32tab), ("math/bits.deBruijn64tab", Rows.laid_math_bits_deBruijn64tab), ("internal/strconv.uint64pow10", Rows.laid_internal_strconv_uint64pow10), ("unicode/utf8.acceptRanges", Rows.laid_unicode_utf8_acceptRanges), ("strconv.ErrRange", Rows.laid_strconv_ErrRange), ("strconv.ErrSyntax", Rows.laid_strconv_ErrSyntax), ("unicode/utf8.first", Rows.laid_unicode_utf8_first)]
set_option maxRecDepth 100000 in
theorem start_met7 (os : Os) (args : Array Value) : laidMetH Tryz.prog laid7 ((startWorld7 os).forCall (fun _ _ => 0) ⟨#[], args, []⟩).memory := by
  rw [MakeChecks.laidMetH_plain _ _ _ (by kernel_rfl)]
  exact laidMet_of_run' 8 (by kernel_rfl) (by kernel_rfl)
theorem gES : Tryz.prog.globalNamed "strconv.ErrSyntax" = some 4 := by kernel_rfl
theorem tES : (Tryz.prog.globals[4]?).map (·.type) = some 105 := by kernel_rfl
theorem gER : Tryz.prog.globalNamed "strconv.ErrRange" = some 5 := by kernel_rfl
theorem tER : (Tryz.prog.globals[5]?).map (·.type) = some 105 := by kernel_rfl
theorem cErr : Tryz.prog.cellsOf 181 = 1 := by kernel_rfl
theorem cStr : Tryz.prog.cellsOf 9 = 1 := by kernel_rfl
theorem starE : "*" ++ "errors.errorString" = "*errors.errorString" := by decide
theorem rowErr (u : TypeId) (h : Tryz.prog.typeName? 3 u = some "*errors.errorString") : u = 179 :=
  typeName_ptr_named (nm := "errors.errorString") (by rw [starE]; kernel_rfl) (by kernel_rfl) (by decide) u (by rw [starE]; exact h)
theorem start_txt {W : World} (h : laidMetH Tryz.prog laid7 W) (hsh : W.ShapedOpen Tryz.prog) : Txt W := by
  rw [MakeChecks.laidMetH_plain _ _ _ (by kernel_rfl)] at h
  have h2 := h.tail.tail
  rw [powD] at h2
  have ht := Lib.tabIs_of_head gPow tPow Tryz.underlying165 Tryz.underlying80 cU64 cPow h2
  have h4 := h.tail.tail.tail.tail
  obtain ⟨a0, s0, hv0, -, -, -⟩ := laid_sentinel h4 gER tER Tryz.underlying105 rowErr Tryz.underlying179 Tryz.underlying181 rfl rfl Tryz.underlying9 cErr cStr
  obtain ⟨a1, s1, hv1, -, -, -⟩ := laid_sentinel h4.tail gES tES Tryz.underlying105 rowErr Tryz.underlying179 Tryz.underlying181 rfl rfl Tryz.underlying9 cErr cStr
  exact ⟨ht, cell_of_shapedOpen_int (P := Tryz.prog) (g := 0) (t := 3) (zero := #[.int .i64 0]) hsh (of_decide_eq_true (by kernel_rfl)) (by kernel_rfl) rfl (by kernel_rfl) (by kernel_rfl) Tryz.underlying3,
    ⟨_, by have h0 := World.var?_cell gES hv1 0; simpa using h0, Or.inr ⟨_, _, rfl⟩⟩, ⟨_, by have h0 := World.var?_cell gER hv0 0; simpa using h0, Or.inr ⟨_, _, rfl⟩⟩⟩
end Go.Proofs.YtkoaangakmpggaaGreatDoor
end
section
/- The laws' arguments, opened: a book, a list of books, lists of numbers. -/
namespace Go.Proofs.YtkoaangakmpggaaGreatDoor
open Go.RowKit Go.Proofs.YtkoaangakmpggaaGreatDoorW.PrintWords Go.Proofs.YtkoaangakmpggaaGreatDoorW.PrintMore
open Go.ChangeShapes Go.WideShapes Go.Deep
set_option linter.unusedVariables false
set_option linter.unusedSimpArgs false
set_option maxRecDepth 100000
theorem cells_i16 : Tryz.prog.cellsOf 41 = 1 := by kernel_rfl
theorem cells_u8 : Tryz.prog.cellsOf 5 = 1 := by kernel_rfl
theorem cells_mark : Tryz.prog.cellsOf 42 = 3 := by kernel_rfl
theorem laid : laidOutB Tryz.prog = true := by kernel_rfl
section
variable {H : Type} {enc : TypeId × Value → H} {w : World} {base : Nat} {spare : Nat → Bool} {held : Bool} {fuel : Nat} {cs : List Value} {x : DataW H × List MemPlace}
theorem trod_i16 (h : DataW.trod enc Tryz.prog w base spare held fuel 41 cs = some x) : ∃ n, cs = [.int .i16 n] ∧ I16 n := by
  obtain ⟨n, h1, h2, h3⟩ := DataW.trod_int Tryz.underlying41 h
  exact ⟨n, h1, bounds_i16 h3⟩
theorem trod_u8 (h : DataW.trod enc Tryz.prog w base spare held fuel 5 cs = some x) : ∃ n, cs = [.int .u8 n] ∧ U8 n := by
  obtain ⟨n, h1, h2, h3⟩ := DataW.trod_int Tryz.underlying5 h
  exact ⟨n, h1, bounds_u8 h3⟩
theorem some_at {α : Type} {xs : List α} {n i : Nat} (h : xs.length = n) (hi : i < n) : ∃ y, xs[i]? = some y := ⟨xs[i]'(by omega), List.getElem?_eq_getElem (by omega)⟩
theorem collect {α : Type} (n : Nat) (Q : Nat → α → Prop) (h : ∀ i, i < n → ∃ b, Q i b) : ∃ L : List α, L.length = n ∧ ∀ i b, L[i]? = some b → Q i b := by
  induction n with
  | zero => exact ⟨[], rfl, fun i b h => by simp at h⟩
  | succ n ih =>
    obtain ⟨L, hl, hL⟩ := ih (fun i hi => h i (by omega))
    obtain ⟨b, hb⟩ := h n (by omega)
    refine ⟨L ++ [b], by simp [hl], fun i b' h2 => ?_⟩
    rcases Nat.lt_or_ge i L.length with hi | hi
    · rw [List.getElem?_append_left hi] at h2; exact hL i b' h2
    · have hi' : i = n := by have := (List.getElem?_eq_some_iff.1 h2).1; simp at this; omega
      subst hi'
      rw [List.getElem?_append_right hi, hl, Nat.sub_self] at h2
      have : b = b' := by simpa using h2
      subst this
      exact hb
end
end Go.Proofs.YtkoaangakmpggaaGreatDoor
end
section
/- The laws' arguments, opened: lists of bytes. -/
namespace Go.Proofs.YtkoaangakmpggaaGreatDoor
open Go.RowKit Go.Proofs.YtkoaangakmpggaaGreatDoorW.PrintWords Go.Proofs.YtkoaangakmpggaaGreatDoorW.PrintMore
set_option linter.unusedVariables false
set_option linter.unusedSimpArgs false
set_option maxRecDepth 100000

open Go.ChangeShapes Go.WideShapes Go.Deep
section
variable {H : Type} {enc : TypeId × Value → H} {w : World} {base : Nat} {spare : Nat → Bool} {held : Bool} {fuel : Nat} {cs : List Value} {x : DataW H × List MemPlace}
theorem cells_uint8' : Tryz.prog.cellsOf 5 = 1 := by kernel_rfl
/-- A list of whole numbers (u8). -/
theorem open_u8s {r : Reach} {b0 : Nat} {v : Value} {d : DataW H} {p : List MemPlace} (hv : Value.okWide Tryz.prog w r b0 22 v) (h : DataW.Trod enc Tryz.prog w 0 (fun _ => true) held 22 v d p) :
    ∃ (A : Option Addr) (c : Nat) (L : List Int), v = .slice A L.length c ∧ L.length ≤ c ∧ (Kd.int .u8).C w A L.length L ∧ (∀ x, x ∈ L → (Lit.int .u8 x).wf = true) := by
  obtain ⟨a0, len, cap, rfl⟩ := okWide_slice Tryz.underlying22 hv
  obtain ⟨fuel, hf⟩ := h
  rcases open_slice Tryz.underlying22 hf with ⟨hcs, hx⟩ | ⟨a, len', cap', m, n, D, Pl, hcs, hb, hl, hm, hmm, hx, hi⟩
  · simp only [Value.cells, List.cons.injEq, and_true] at hcs
    have hcs' : Value.slice a0 len cap = .slice none 0 0 := by simpa using hcs
    injection hcs' with e1 e2 e3
    subst e1 e2 e3
    exact ⟨none, 0, [], rfl, Nat.le_refl _, Kd.C_nil (Kd.int .u8) w, fun b hb => by cases hb⟩
  · have hcs' : Value.slice a0 len cap = .slice (some a) len' cap' := by simpa [Value.cells] using hcs
    injection hcs' with e1 e2 e3
    subst e1 e2 e3
    rw [if_pos rfl] at hmm
    subst hmm
    rw [cells_uint8'] at hi
    have hE : ∀ i, i < len → ∃ n : Int, (Lit.int .u8 n).wf = true ∧ w.cell? (a.add i) = some (.int .u8 n) := by
      intro i hil
      obtain ⟨cs', hc, ht⟩ := hi i (by omega)
      obtain ⟨n, rfl, _, hw⟩ := DataW.trod_int Tryz.underlying5 ht
      obtain ⟨_, hcl, hat⟩ := World.cells?_some hc
      refine ⟨n, hw, ?_⟩
      have := hat 0 (by omega)
      rw [Go.Deep.add_add] at this
      simpa using this
    obtain ⟨L, hLl, hL⟩ := collect _ _ hE
    subst hLl
    refine ⟨some a, _, L, rfl, hl, ⟨rfl, by unfold maxLen at hm; omega, fun _ => ⟨a, rfl, fun j p hj => ⟨[.int .u8 p], rfl, rfl, fun i u hu => ?_⟩⟩⟩, fun b hb => ?_⟩
    · match i, hu with
      | 0, hu => cases hu; have := (hL j p hj).2; simpa [Kd.int, Kd.scalar] using this
    · obtain ⟨i, hi⟩ := List.mem_iff_getElem?.1 hb
      exact (hL i b hi).1
theorem cells_int64' : Tryz.prog.cellsOf 2 = 1 := by kernel_rfl
theorem open_u8s' {r : Reach} {b0 : Nat} {v : Value} {d : DataW H} {p : List MemPlace} (hv : Value.okWide Tryz.prog w r b0 22 v) (h : DataW.Trod enc Tryz.prog w 0 (fun _ => true) held 22 v d p) :
    ∃ (A : Option Addr) (c : Nat) (L : List Int), v = .slice A L.length c ∧ L.length ≤ c ∧ (Kd.int .u8).C w A L.length L ∧ (∀ x, x ∈ L → 0 ≤ x ∧ x ≤ 255) := by
  obtain ⟨A, c, L, h1, h2, h3, h4⟩ := open_u8s hv h
  exact ⟨A, c, L, h1, h2, h3, fun x hx => bounds_u8 (h4 x hx)⟩
end
end Go.Proofs.YtkoaangakmpggaaGreatDoor
end
