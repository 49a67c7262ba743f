/- The laws' arguments, opened: lists of numbers. -/
import Derived.Test.YtgibcacciedobaaDoorOpen
import Derived.OpenShut
import Derived.Deep.Slices
import Derived.ProofKit
import Derived.ChangeOld
import Derived.Carry
namespace Go.Proofs.YtgibcacciedobaaDoor
open Go.RowKit Go.Proofs.YtgibcacciedobaaDoorW.PrintWords Go.Proofs.YtgibcacciedobaaDoorW.PrintMore
set_option linter.unusedVariables false
set_option linter.unusedSimpArgs false
set_option maxRecDepth 100000

open Go.ChangeShapes Go.WideShapes Go.Deep
section
variable {H : Type} {enc : TypeId × Value → H} {w : World} {base : Nat} {spare : Nat → Bool} {held : Bool} {fuel : Nat} {cs : List Value} {x : DataW H × List MemPlace}
theorem cells_int64' : Tryd.prog.cellsOf 2 = 1 := by kernel_rfl
/-- A list of whole numbers (i64). -/
theorem open_i64s {r : Reach} {b0 : Nat} {v : Value} {d : DataW H} {p : List MemPlace} (hv : Value.okWide Tryd.prog w r b0 44 v) (h : DataW.Trod enc Tryd.prog w 0 (fun _ => true) held 44 v d p) :
    ∃ (A : Option Addr) (c : Nat) (L : List Int), v = .slice A L.length c ∧ L.length ≤ c ∧ (Kd.int .i64).C w A L.length L ∧ (∀ x, x ∈ L → (Lit.int .i64 x).wf = true) := by
  obtain ⟨a0, len, cap, rfl⟩ := okWide_slice Tryd.underlying44 hv
  obtain ⟨fuel, hf⟩ := h
  rcases open_slice Tryd.underlying44 hf with ⟨hcs, hx⟩ | ⟨a, len', cap', m, n, D, Pl, hcs, hb, hl, hm, hmm, hx, hi⟩
  · simp only [Value.cells, List.cons.injEq, and_true] at hcs
    have hcs' : Value.slice a0 len cap = .slice none 0 0 := by simpa using hcs
    injection hcs' with e1 e2 e3
    subst e1 e2 e3
    exact ⟨none, 0, [], rfl, Nat.le_refl _, Kd.C_nil (Kd.int .i64) w, fun b hb => by cases hb⟩
  · have hcs' : Value.slice a0 len cap = .slice (some a) len' cap' := by simpa [Value.cells] using hcs
    injection hcs' with e1 e2 e3
    subst e1 e2 e3
    rw [if_pos rfl] at hmm
    subst hmm
    rw [cells_int64'] at hi
    have hE : ∀ i, i < len → ∃ n : Int, (Lit.int .i64 n).wf = true ∧ w.cell? (a.add i) = some (.int .i64 n) := by
      intro i hil
      obtain ⟨cs', hc, ht⟩ := hi i (by omega)
      obtain ⟨n, rfl, _, hw⟩ := DataW.trod_int Tryd.underlying2 ht
      obtain ⟨_, hcl, hat⟩ := World.cells?_some hc
      refine ⟨n, hw, ?_⟩
      have := hat 0 (by omega)
      rw [Go.Deep.add_add] at this
      simpa using this
    obtain ⟨L, hLl, hL⟩ := collect _ _ hE
    subst hLl
    refine ⟨some a, _, L, rfl, hl, ⟨rfl, by unfold maxLen at hm; omega, fun _ => ⟨a, rfl, fun j p hj => ⟨[.int .i64 p], rfl, rfl, fun i u hu => ?_⟩⟩⟩, fun b hb => ?_⟩
    · match i, hu with
      | 0, hu => cases hu; have := (hL j p hj).2; simpa [Kd.int, Kd.scalar] using this
    · obtain ⟨i, hi⟩ := List.mem_iff_getElem?.1 hb
      exact (hL i b hi).1
theorem open_i64s' {r : Reach} {b0 : Nat} {v : Value} {d : DataW H} {p : List MemPlace} (hv : Value.okWide Tryd.prog w r b0 44 v) (h : DataW.Trod enc Tryd.prog w 0 (fun _ => true) held 44 v d p) :
    ∃ (A : Option Addr) (c : Nat) (L : List Int), v = .slice A L.length c ∧ L.length ≤ c ∧ (Kd.int .i64).C w A L.length L ∧ (∀ x, x ∈ L → -9223372036854775808 ≤ x ∧ x ≤ 9223372036854775807) := by
  obtain ⟨A, c, L, h1, h2, h3, h4⟩ := open_i64s hv h
  exact ⟨A, c, L, h1, h2, h3, fun x hx => bounds_i64 (h4 x hx)⟩
end
end Go.Proofs.YtgibcacciedobaaDoor
