/- Regions that draw their order and whose callees may lay blocks of their own, walked once. -/
import Derived.Test.YtgibcacciedobaaDoorBase
import Derived.Deep.QuietTactic
import Derived.BigQuiet
import Derived.Deep.RegionWith
namespace Go.Proofs.YtgibcacciedobaaDoor
open Go.RowKit Go.Proofs.YtgibcacciedobaaDoorW.PrintWords Go.Proofs.YtgibcacciedobaaDoorW.PrintMore
set_option linter.unusedVariables false
set_option linter.unusedSimpArgs false
set_option maxRecDepth 100000

/-- A world that has grown out of w, what lay below kept. -/
structure Over (w : World) where
  W : World
  h : Below w.heap.size w W
instance (w : World) : Inhabited (Over w) := ⟨⟨w, Below.refl _ _⟩⟩
theorem region_over {P : Program} {id : Nat} {Q : Exit → Act → World → Prop} {a : Act} {w : World} {l : List Oper} (hm : P.follows .mixedOrders = true) (hB : Region.lexB .any l.toArray = true)
    (h : wpQuiet P l.toArray (fun w' => ∃ p : Over w, w' = p.W) (fun a' => ∀ w', (∃ p : Over w, w' = p.W) → Q .normal a' w') l a) : (Code.region id l.toArray true).wp P Q a w :=
  wp_region_quiet (C := fun w' => ∃ p : Over w, w' = p.W) hm hB ⟨⟨w.drew, bdrew (Below.refl _ _)⟩, rfl⟩ (by simpa using h)
theorem Calls.over_of {P : Program} {f : FuncId} {args : Array Value} {w : World} {p : Over w} {v : Value} (h : Calls P f args p.W (Ret p.W v)) : Calls P f args p.W (fun e w'' => e = .returned v ∧ ∃ q : Over w, w'' = q.W) :=
  h.mono fun e w' h => ⟨h.1, ⟨w', bstep p.h h.2⟩, rfl⟩
theorem over_out {w w' : World} (h : ∃ p : Over w, w' = p.W) : Below w.heap.size w w' := by
  obtain ⟨p, hp⟩ := h
  rw [hp]; exact p.h
/-- A cell of an old block. -/
theorem Over.cell {w : World} {a : Addr} {v : Value} (h : w.cell? a = some v) (p : Over w) : p.W.cell? a = some v := pw_cell_below p.h h
end Go.Proofs.YtgibcacciedobaaDoor
