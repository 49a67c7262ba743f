/- The laws' arguments, opened: moves. -/
import Derived.Test.YtdippdkneeocfaaOpen
import Derived.Test.YtdippdkneeocfaaMv
import Derived.OpenShut
import Derived.Deep.Slices
import Derived.ProofKit
import Derived.ChangeOld
import Derived.Carry
namespace Go.Proofs.Ytdippdkneeocfaa
open Go.RowKit Go.Proofs.YtdippdkneeocfaaW.PrintWords Go.Proofs.YtdippdkneeocfaaW.PrintMore
set_option linter.unusedVariables false
set_option linter.unusedSimpArgs false
set_option maxRecDepth 100000

open Go.ChangeShapes Go.WideShapes Go.Deep
theorem cells_lmv : Try.prog.cellsOf 105 = 2 := by kernel_rfl
section
variable {H : Type} {enc : TypeId × Value → H} {w : World} {base : Nat} {spare : Nat → Bool} {held : Bool} {fuel : Nat} {cs : List Value} {x : DataW H × List MemPlace}
theorem trod_move (h : DataW.trod enc Try.prog w base spare held fuel 105 cs = some x) : ∃ b : Mv, cs = Mv.cells b ∧ b.ok := by
  obtain ⟨xs, n, _, _, hlen, hxl, hf⟩ := DataW.trod_struct Try.underlying105 h
  rw [cells_lmv] at hlen
  have hxl' : xs.length = 2 := hxl
  match cs, hlen with
  | [v0, v1], _ =>
    obtain ⟨y0, e0⟩ := some_at hxl' (show 0 < 2 by omega)
    obtain ⟨y1, e1⟩ := some_at hxl' (show 1 < 2 by omega)
    have g0 : DataW.trod enc Try.prog w base spare held n 22 [v0] = some y0 := by simpa [cells_i16] using (hf 0 _ rfl).trans e0
    have g1 : DataW.trod enc Try.prog w base spare held n 22 [v1] = some y1 := by simpa [cells_i16] using (hf 1 _ rfl).trans e1
    obtain ⟨n0, h0, b0⟩ := trod_i16 g0
    obtain ⟨n1, h1, b1⟩ := trod_i16 g1
    simp only [List.cons.injEq, and_true] at h0 h1
    subst h0 h1
    exact ⟨⟨n0, n1⟩, rfl, b0, b1⟩
/-- A list of moves. -/
theorem open_moves {r : Reach} {b0 : Nat} {v : Value} {d : DataW H} {p : List MemPlace} (hv : Value.okWide Try.prog w r b0 36 v) (h : DataW.Trod enc Try.prog w 0 (fun _ => true) held 36 v d p) :
    ∃ (A : Option Addr) (c : Nat) (L : List Mv), v = .slice A L.length c ∧ L.length ≤ c ∧ kMv.C w A L.length L ∧ OkM L := by
  obtain ⟨a0, len, cap, rfl⟩ := okWide_slice Try.underlying36 hv
  obtain ⟨fuel, hf⟩ := h
  rcases open_slice Try.underlying36 hf with ⟨hcs, hx⟩ | ⟨a, len', cap', m, n, D, Pl, hcs, hb, hl, hm, hmm, hx, hi⟩
  · simp only [Value.cells, List.cons.injEq, and_true] at hcs
    have hcs' : Value.slice a0 len cap = .slice none 0 0 := by simpa using hcs
    injection hcs' with e1 e2 e3
    subst e1 e2 e3
    exact ⟨none, 0, [], rfl, Nat.le_refl _, Kd.C_nil kMv w, fun b hb => by cases hb⟩
  · have hcs' : Value.slice a0 len cap = .slice (some a) len' cap' := by simpa [Value.cells] using hcs
    injection hcs' with e1 e2 e3
    subst e1 e2 e3
    rw [if_pos rfl] at hmm
    subst hmm
    rw [cells_lmv] at hi
    have hE : ∀ i, i < len → ∃ b : Mv, b.ok ∧ ∀ j u, (Mv.cells b)[j]? = some u → w.cell? (a.add (i * 2 + j)) = some u := by
      intro i hil
      obtain ⟨cs', hc, ht⟩ := hi i (by omega)
      obtain ⟨b, rfl, hok⟩ := trod_move ht
      obtain ⟨_, hcl, hat⟩ := World.cells?_some hc
      refine ⟨b, hok, fun j u hu => ?_⟩
      have hj : j < 2 := by have := (List.getElem?_eq_some_iff.1 hu).1; exact this
      have := hat j hj
      rw [Go.Deep.add_add] at this
      rw [this, hu]
    obtain ⟨L, hLl, hL⟩ := collect _ _ hE
    subst hLl
    refine ⟨some a, _, L, rfl, hl, ⟨rfl, by unfold maxLen at hm; omega, fun _ => ⟨a, rfl, fun j p hj => ⟨Mv.cells p, rfl, rfl, (hL j p hj).2⟩⟩⟩, fun b hb => ?_⟩
    obtain ⟨i, hi⟩ := List.mem_iff_getElem?.1 hb
    exact (hL i b hi).1
end
end Go.Proofs.Ytdippdkneeocfaa
