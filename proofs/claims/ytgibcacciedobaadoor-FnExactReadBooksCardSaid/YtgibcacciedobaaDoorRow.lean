/- Rows of whole numbers and of books that a call makes: append; what a call hands back. -/
import Derived.Test.YtgibcacciedobaaDoorToS
namespace Go.Proofs.YtgibcacciedobaaDoor
open Go.RowKit Go.Proofs.YtgibcacciedobaaDoorW.PrintWords Go.Proofs.YtgibcacciedobaaDoorW.PrintMore
set_option linter.unusedVariables false
set_option linter.unusedSimpArgs false
set_option maxRecDepth 100000

theorem info_i64 : (Tryd.prog.info? 2).map (fun i => (i.zero, i.size, i.bytes)) = some (some (.int .i64 0), 1, 8) := by kernel_rfl
/-- A row of whole numbers of the call's own. -/
def NewI (w : World) (L : List Int) (v : Value) (w' : World) : Prop := (Kd.int .i64).R 2 w' w.heap.size (fun _ => True) v L
theorem NewI.open {w w' : World} {L : List Int} {v : Value} (h : NewI w L v w') : ∃ A c, v = .slice A L.length c ∧ L.length ≤ c ∧ Aside0 ((Kd.int .i64).C w' A L.length L) := by
  obtain ⟨A, c, h1, h2, h3⟩ := Kd.R_reads h
  exact ⟨A, c, h1, h2, ⟨h3⟩⟩
/-- A row and a whole number handed back. -/
def TupI (w : World) (L : List Int) (n : Int) (v : Value) (w' : World) : Prop := ∃ v1, v = .tuple #[v1, .int .i64 n] ∧ NewI w L v1 w'
def TupB (w : World) (L : List Bk) (n : Int) (v : Value) (w' : World) : Prop := ∃ v1, v = .tuple #[v1, .int .i64 n] ∧ NewBk w L v1 w'
/-- A row of no element that a literal makes. -/
theorem R_zero {α : Type} (d : Kd α) (e : Nat) (W : World) (base : Nat) (ok : Nat → Prop) (hb : base ≤ W.heap.size) (hok : ok W.heap.size) : d.R e (W.alloc (.cells #[] e)) base ok (.slice (some ⟨W.heap.size, 0, none⟩) 0 0) [] := by
  refine ⟨fun k hk => ?_, [], ?_, Reps.none _ _⟩
  · have : W.heap.size = k := by simpa [Value.ownBlock] using hk
    subst this
    exact hok
  · have h2 := World.ownsRow_lit (base := base) (e := e) (size := d.sz) W #[] 0 hb (by decide) (by simp)
    simpa using h2
section
variable {ops : Array Oper} {rest : List Oper} {o : Oper} {a : Act} {Q : Exit → Act → World → Prop}
/-- append(out, n). -/
theorem i64_append {w W : World} (hgd : o.guard = none) (s x : Operand) (ho : o.op = .call { callee := .builtin .append, args := #[s, x], argTypes := #[44, 44] }) (v : Value) (xs : List Int) (n : Int)
    (hs : a.eval s = v) (hx : a.eval x = .slice (some ⟨W.heap.size, 0, none⟩) 1 1) (HO : (Kd.int .i64).R 2 W w.heap.size (fun _ => True) v xs) (HB : Below w.heap.size w W) (hl : xs.length ≤ 2097152)
    (h : ∀ v1 w1, (Kd.int .i64).R 2 w1 w.heap.size (fun _ => True) v1 (xs ++ [n]) → Below w.heap.size w w1 → W.grownBy w1 v.ownBlock → wpList Tryd.prog ops Q rest (a.put o.dst v1) w1) :
    wpList Tryd.prog ops Q (o :: rest) a (W.alloc (.cells #[.int .i64 n] 2)) :=
  Kd.R_append (Kd.int .i64) (w0 := w) w.heap.size hgd s x 44 2 (.int .i64 0) 8 ho Tryd.underlying44 info_i64 rfl (by decide) (by decide) v xs n [.int .i64 n] (fun _ => True) (fun _ => False) hs hx rfl (fun _ h => h.elim) (fun _ _ => trivial) HO HB HB.size (by omega)
    (fun v1 w1 h1 h2 h3 _ => h v1 w1 h1 h2 h3)
/-- append(out, b). -/
theorem bk_append {w W : World} (hgd : o.guard = none) (s x : Operand) (ho : o.op = .call { callee := .builtin .append, args := #[s, x], argTypes := #[33, 33] }) (v : Value) (xs : List Bk) (b : Bk)
    (hs : a.eval s = v) (hx : a.eval x = .slice (some ⟨W.heap.size, 0, none⟩) 1 1) (HO : kBk.R 27 W w.heap.size (fun _ => True) v xs) (HB : Below w.heap.size w W) (hl : xs.length ≤ 2097152)
    (h : ∀ v1 w1, kBk.R 27 w1 w.heap.size (fun _ => True) v1 (xs ++ [b]) → Below w.heap.size w w1 → W.grownBy w1 v.ownBlock → wpList Tryd.prog ops Q rest (a.put o.dst v1) w1) :
    wpList Tryd.prog ops Q (o :: rest) a (W.alloc (.cells (Bk.cells b).toArray 27)) :=
  Kd.R_append kBk (w0 := w) w.heap.size hgd s x 33 27 (.agg #[.int .i16 0, .int .u8 0, .int .u8 0, .int .u8 0, .int .i16 0, .int .i16 0, .int .i16 0, .int .i16 0]) 14 ho Tryd.underlying33 info_bk rfl (by decide) (by decide) v xs b (Bk.cells b) (fun _ => True) (fun _ => False) hs hx rfl (fun _ h => h.elim) (fun _ _ => trivial) HO HB HB.size (by omega)
    (fun v1 w1 h1 h2 h3 _ => h v1 w1 h1 h2 h3)
end
end Go.Proofs.YtgibcacciedobaaDoor
