/- The laws' arguments, opened: a table. -/
import Derived.Test.YtdippdkneeocfaaOpenC
import Derived.Test.YtdippdkneeocfaaTabL
import Derived.OpenShut
import Derived.Deep.Slices
import Derived.ProofKit
import Derived.ChangeOld
import Derived.Carry
namespace Go.Proofs.Ytdippdkneeocfaa
open Go.RowKit Go.Proofs.YtdippdkneeocfaaW.PrintWords Go.Proofs.YtdippdkneeocfaaW.PrintMore
set_option linter.unusedVariables false
set_option linter.unusedSimpArgs false
set_option maxRecDepth 100000

open Go.ChangeShapes Go.WideShapes Go.Deep
section
variable {H : Type} {enc : TypeId × Value → H} {w : World} {base : Nat} {spare : Nat → Bool} {held : Bool} {fuel : Nat} {cs : List Value} {x : DataW H × List MemPlace}
theorem cells_i64s : Try.prog.cellsOf 56 = 1 := by kernel_rfl
theorem trod_i64s (h : DataW.trod enc Try.prog w 0 (fun _ => true) held fuel 56 cs = some x) :
    ∃ (A : Option Addr) (c : Nat) (L : List Int), cs = [.slice A L.length c] ∧ L.length ≤ c ∧ (Kd.int .i64).C w A L.length L ∧ OkI64 L := by
  rcases open_slice Try.underlying56 h with ⟨hcs, hx⟩ | ⟨a, len, cap, m, n, D, Pl, hcs, hb, hl, hm, hmm, hx, hi⟩
  · exact ⟨none, 0, [], hcs, Nat.le_refl _, Kd.C_nil (Kd.int .i64) w, fun b hb => by cases hb⟩
  · rw [if_pos rfl] at hmm
    subst hmm
    rw [cells_int64'] at hi
    have hE : ∀ i, i < len → ∃ n : Int, (Lit.int .i64 n).wf = true ∧ w.cell? (a.add i) = some (.int .i64 n) := by
      intro i hil
      obtain ⟨cs', hc, ht⟩ := hi i (by omega)
      obtain ⟨n, rfl, _, hw⟩ := DataW.trod_int Try.underlying2 ht
      obtain ⟨_, hcl, hat⟩ := World.cells?_some hc
      refine ⟨n, hw, ?_⟩
      have := hat 0 (by omega)
      rw [Go.Deep.add_add] at this
      simpa using this
    obtain ⟨L, hLl, hL⟩ := collect _ _ hE
    subst hLl
    refine ⟨some a, _, L, hcs, hl, ⟨rfl, by unfold maxLen at hm; omega, fun _ => ⟨a, rfl, fun j p hj => ⟨[.int .i64 p], rfl, rfl, fun i u hu => ?_⟩⟩⟩, fun b hb => ?_⟩
    · match i, hu with
      | 0, hu => cases hu; have := (hL j p hj).2; simpa [Kd.int, Kd.scalar] using this
    · obtain ⟨i, hi⟩ := List.mem_iff_getElem?.1 hb
      exact bounds_i64 (hL i b hi).1
/-- A table. -/
theorem open_i64ss {r : Reach} {b0 : Nat} {v : Value} {d : DataW H} {p : List MemPlace} (hv : Value.okWide Try.prog w r b0 77 v) (h : DataW.Trod enc Try.prog w 0 (fun _ => true) held 77 v d p) :
    ∃ (A : Option Addr) (c : Nat) (L : List (List Int)), v = .slice A L.length c ∧ L.length ≤ c ∧ kT.C w A L.length L ∧ OkT L := by
  obtain ⟨a0, len, cap, rfl⟩ := okWide_slice Try.underlying77 hv
  obtain ⟨fuel, hf⟩ := h
  rcases open_slice Try.underlying77 hf with ⟨hcs, hx⟩ | ⟨a, len', cap', m, n, D, Pl, hcs, hb, hl, hm, hmm, hx, hi⟩
  · simp only [Value.cells, List.cons.injEq, and_true] at hcs
    have hcs' : Value.slice a0 len cap = .slice none 0 0 := by simpa using hcs
    injection hcs' with e1 e2 e3
    subst e1 e2 e3
    exact ⟨none, 0, [], rfl, Nat.le_refl _, Kd.C_nil kT w, fun b hb => by cases hb⟩
  · have hcs' : Value.slice a0 len cap = .slice (some a) len' cap' := by simpa [Value.cells] using hcs
    injection hcs' with e1 e2 e3
    subst e1 e2 e3
    rw [if_pos rfl] at hmm
    subst hmm
    rw [cells_i64s] at hi
    have hE : ∀ i, i < len → ∃ r : List Int, OkI64 r ∧ ∃ A' c', r.length ≤ c' ∧ (Kd.int .i64).C w A' r.length r ∧ w.cell? (a.add i) = some (.slice A' r.length c') := by
      intro i hil
      obtain ⟨cs', hc, ht⟩ := hi i (by omega)
      obtain ⟨A', c', r, rfl, hlc, hC, hO⟩ := trod_i64s ht
      obtain ⟨_, hcl, hat⟩ := World.cells?_some hc
      refine ⟨r, hO, A', c', hlc, hC, ?_⟩
      have := hat 0 (by omega)
      rw [Go.Deep.add_add] at this
      simpa using this
    obtain ⟨L, hLl, hL⟩ := collect _ _ hE
    subst hLl
    refine ⟨some a, _, L, rfl, hl, ⟨rfl, by unfold maxLen at hm; omega, fun _ => ⟨a, rfl, fun j p hj => ?_⟩⟩, fun b hb => ?_⟩
    · obtain ⟨_, A', c', h1, h2, h3⟩ := hL j p hj
      refine ⟨[.slice A' p.length c'], rfl, ⟨A', c', rfl, h1, h2⟩, fun i u hu => ?_⟩
      match i, hu with
      | 0, hu => cases hu; have hs : kT.sz = 1 := rfl; rw [hs, Nat.mul_one, Nat.add_zero]; exact h3
    · obtain ⟨i, hi⟩ := List.mem_iff_getElem?.1 hb
      exact (hL i b hi).1
end
end Go.Proofs.Ytdippdkneeocfaa
