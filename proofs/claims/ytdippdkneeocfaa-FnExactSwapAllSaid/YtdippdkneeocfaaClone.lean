/- slices.Clone at books. -/
import Derived.Test.YtdippdkneeocfaaRow
import Derived.StillTailTactics
import Derived.Still
import Derived.WalkSpells
namespace Go.Proofs.Ytdippdkneeocfaa
open Go.RowKit Go.Proofs.YtdippdkneeocfaaW.PrintWords Go.Proofs.YtdippdkneeocfaaW.PrintMore
set_option linter.unusedVariables false
set_option linter.unusedSimpArgs false
set_option maxRecDepth 100000

section
variable {ops : Array Oper} {rest : List Oper} {o : Oper} {a : Act} {Q : Exit → Act → World → Prop}
/-- append([]impl.Book{}, bs...). -/
theorem bk_append_all {w W : World} (hgd : o.guard = none) (s x : Operand) (ho : o.op = .call { callee := .builtin .append, args := #[s, x], argTypes := #[33, 33] }) (A : Option Addr) (m c : Nat) (ys : List Bk)
    (hs : a.eval s = .slice (some ⟨W.heap.size, 0, none⟩) 0 0) (hx : a.eval x = .slice A m c) (HL : kBk.C W A m ys) (HB : Below w.heap.size w W) (hl : m ≤ 2097152)
    (h : ∀ v1 w1, kBk.R 27 w1 w.heap.size (fun _ => True) v1 ys → Below w.heap.size w w1 → wpList Try.prog ops Q rest (a.put o.dst v1) w1) :
    wpList Try.prog ops Q (o :: rest) a (W.alloc (.cells #[] 27)) :=
  Kd.R_append_rows kBk (Rr := kBk.K (W.alloc (.cells #[] 27))) (w0 := w) w.heap.size hgd s x 33 27 (.agg #[.int .i16 0, .int .u8 0, .int .u8 0, .int .u8 0, .int .i16 0, .int .i16 0, .int .i16 0, .int .i16 0]) 14 ho Try.underlying33 info_bk rfl (by decide) (by decide) _ [] ys A m c (fun _ => True) (fun _ => False) hs hx (R_zero _ _ _ _ _ HB.size trivial) (Kd.C_below HL (balloc (Below.refl _ _) _)) (fun x cs h => h) (fun _ h => h.elim) (fun _ _ => trivial) (HB.alloc HB.size _) (by simp only [World.size_alloc]; have := HB.size; omega) (by simp only [List.length_nil]; omega)
    (fun v1 w1 h1 h2 _ _ => h v1 w1 h1 h2)
end
set_option maxHeartbeats 1000000 in
theorem clone_c (A : Option Addr) (c : Nat) (L : List Bk) (w : World) (hL : kBk.C w A L.length L) (hn : L.length ≤ 2097152) :
    Calls Try.prog 110 #[.slice A L.length c] w (RetQ w (NewBk w L)) := by
  have hm := Kd.C_max hL
  have HL := Aside0.mk hL
  clear hL
  have qT : ∀ (w : World) (a : Option Addr) (n c : Nat), (binOp .eql 33 (.slice a n c) (.slice none 0 0)).run Try.prog w = .ok (.bool a.isNone) w := fun w a n c => Lib.run_eql_slice_nil w _ _ a n c 0 0 Try.underlying33
  cases A with
  | none =>
    have h0 : L = [] := by
      have h1 := HL.out
      rcases h1 with ⟨h2, h3, h4⟩
      cases L with
      | nil => rfl
      | cons x L => obtain ⟨ad, h5, _⟩ := h4 (by simp); cases h5
    subst h0
    have e0 : (none : Option Addr).isNone = true := rfl
    go_enter Try.func110, Try.ntmps110
    go_wp2_with fail
    go_ret
    exact ⟨_, rfl, Below.refl _ _, Kd.R_nil _ _ _ _ _⟩
  | some p =>
    have e0 : (some p).isNone = false := rfl
    go_enter Try.func110, Try.ntmps110
    go_wp2_with (refine bk_append_all (w := w) rfl (.tmp 5) (.tmp 6) rfl (some p) _ c L rfl rfl HL.out (Below.refl _ _) hn ?_; intro v1 w1 hR hB; have HR := Aside0.mk hR; have HB := Aside0.mk hB; clear hR hB)
    go_ret
    exact ⟨_, rfl, HB.out, HR.out⟩
end Go.Proofs.Ytdippdkneeocfaa
