/- The laws' arguments, opened: a case. -/
import Derived.Test.YtgibcacciedobaaDoorOpenN
import Derived.Test.YtgibcacciedobaaDoorCase
import Derived.OpenShut
import Derived.Deep.Slices
import Derived.ProofKit
import Derived.ChangeOld
import Derived.Carry
namespace Go.Proofs.YtgibcacciedobaaDoor
open Go.RowKit Go.Proofs.YtgibcacciedobaaDoorW.PrintWords Go.Proofs.YtgibcacciedobaaDoorW.PrintMore
set_option linter.unusedVariables false
set_option linter.unusedSimpArgs false
set_option maxRecDepth 100000

open Go.ChangeShapes Go.WideShapes Go.Deep
section
variable {H : Type} {enc : TypeId × Value → H} {w : World} {base : Nat} {spare : Nat → Bool} {held : Bool} {fuel : Nat} {cs : List Value} {x : DataW H × List MemPlace}
theorem cells_lcase : Tryd.prog.cellsOf 51 = 3 := by kernel_rfl
theorem cells_i32 : Tryd.prog.cellsOf 21 = 1 := by kernel_rfl
theorem cells_i16s : Tryd.prog.cellsOf 49 = 1 := by kernel_rfl
theorem trod_i16s (h : DataW.trod enc Tryd.prog w 0 (fun _ => true) held fuel 49 cs = some x) :
    ∃ (A : Option Addr) (c : Nat) (L : List Int), cs = [.slice A L.length c] ∧ L.length ≤ c ∧ (Kd.int .i16).C w A L.length L ∧ OkI16 L := by
  rcases open_slice Tryd.underlying49 h with ⟨hcs, hx⟩ | ⟨a, len, cap, m, n, D, Pl, hcs, hb, hl, hm, hmm, hx, hi⟩
  · exact ⟨none, 0, [], hcs, Nat.le_refl _, Kd.C_nil (Kd.int .i16) w, fun b hb => by cases hb⟩
  · rw [if_pos rfl] at hmm
    subst hmm
    rw [cells_i16] at hi
    have hE : ∀ i, i < len → ∃ n : Int, I16 n ∧ w.cell? (a.add i) = some (.int .i16 n) := by
      intro i hil
      obtain ⟨cs', hc, ht⟩ := hi i (by omega)
      obtain ⟨n, rfl, hw⟩ := trod_i16 ht
      obtain ⟨_, hcl, hat⟩ := World.cells?_some hc
      refine ⟨n, hw, ?_⟩
      have := hat 0 (by omega)
      rw [Go.Deep.add_add] at this
      simpa using this
    obtain ⟨L, hLl, hL⟩ := collect _ _ hE
    subst hLl
    refine ⟨some a, _, L, hcs, hl, ⟨rfl, by unfold maxLen at hm; omega, fun _ => ⟨a, rfl, fun j p hj => ⟨[.int .i16 p], rfl, rfl, fun i u hu => ?_⟩⟩⟩, fun b hb => ?_⟩
    · match i, hu with
      | 0, hu => cases hu; have := (hL j p hj).2; simpa [Kd.int, Kd.scalar] using this
    · obtain ⟨i, hi⟩ := List.mem_iff_getElem?.1 hb
      exact (hL i b hi).1
theorem trod_case (h : DataW.trod enc Tryd.prog w 0 (fun _ => true) held fuel 51 cs = some x) :
    ∃ (k : Cs) (A : Option Addr) (c : Nat), cs = [.int .i16 k.wd, .int .i32 k.ld, .slice A k.hs.length c] ∧ k.hs.length ≤ c ∧ (Kd.int .i16).C w A k.hs.length k.hs ∧ k.ok := by
  obtain ⟨xs, n, _, _, hlen, hxl, hf⟩ := DataW.trod_struct Tryd.underlying51 h
  rw [cells_lcase] at hlen
  have hxl' : xs.length = 3 := hxl
  match cs, hlen with
  | [v0, v1, v2], _ =>
    obtain ⟨y0, e0⟩ := some_at hxl' (show 0 < 3 by omega)
    obtain ⟨y1, e1⟩ := some_at hxl' (show 1 < 3 by omega)
    obtain ⟨y2, e2⟩ := some_at hxl' (show 2 < 3 by omega)
    have g0 : DataW.trod enc Tryd.prog w 0 (fun _ => true) held n 22 [v0] = some y0 := by simpa [cells_i16] using (hf 0 _ rfl).trans e0
    have g1 : DataW.trod enc Tryd.prog w 0 (fun _ => true) held n 21 [v1] = some y1 := by simpa [cells_i32] using (hf 1 _ rfl).trans e1
    have g2 : DataW.trod enc Tryd.prog w 0 (fun _ => true) held n 49 [v2] = some y2 := by simpa [cells_i16s] using (hf 2 _ rfl).trans e2
    obtain ⟨n0, h0, b0⟩ := trod_i16 g0
    obtain ⟨n1, h1, _, h3⟩ := DataW.trod_int Tryd.underlying21 g1
    obtain ⟨A, c, L, h2, hl, hC, hO⟩ := trod_i16s g2
    simp only [List.cons.injEq, and_true] at h0 h1 h2
    subst h0 h1 h2
    exact ⟨⟨n0, n1, L⟩, A, c, rfl, hl, hC, b0, bounds_i32 h3, hO⟩
/-- A case by value. -/
theorem open_case {r : Reach} {b0 : Nat} {v : Value} {d : DataW H} {p : List MemPlace} (hv : Value.okWide Tryd.prog w r b0 51 v) (h : DataW.Trod enc Tryd.prog w 0 (fun _ => true) held 51 v d p) :
    ∃ (k : Cs) (A : Option Addr) (c : Nat), v = k.val A c ∧ k.hs.length ≤ c ∧ (Kd.int .i16).C w A k.hs.length k.hs ∧ k.ok := by
  obtain ⟨cs, rfl, hsz⟩ := okWide_struct Tryd.underlying51 hv
  obtain ⟨fuel, hf⟩ := h
  obtain ⟨k, A, c, hb, h1, h2, h3⟩ := trod_case hf
  refine ⟨k, A, c, ?_, h1, h2, h3⟩
  have : cs.toList = [.int .i16 k.wd, .int .i32 k.ld, .slice A k.hs.length c] := hb
  have e : cs = ([.int .i16 k.wd, .int .i32 k.ld, .slice A k.hs.length c] : List Value).toArray := by rw [← this]
  rw [e]; rfl
end
end Go.Proofs.YtgibcacciedobaaDoor
