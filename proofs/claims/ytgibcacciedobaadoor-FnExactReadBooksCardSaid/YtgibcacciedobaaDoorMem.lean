/- Rows of books that a call makes: make, a store of a whole book. -/
import Derived.Test.YtgibcacciedobaaDoorBase
namespace Go.Proofs.YtgibcacciedobaaDoor
open Go.RowKit Go.Proofs.YtgibcacciedobaaDoorW.PrintWords Go.Proofs.YtgibcacciedobaaDoorW.PrintMore
set_option linter.unusedVariables false
set_option linter.unusedSimpArgs false
set_option maxRecDepth 100000

theorem info_bk : (Tryd.prog.info? 27).map (fun i => (i.zero, i.size, i.bytes)) = some (some (.agg #[.int .i16 0, .int .u8 0, .int .u8 0, .int .u8 0, .int .i16 0, .int .i16 0, .int .i16 0, .int .i16 0]), 8, 14) := by kernel_rfl
def zBk : Bk := ⟨0, 0, 0, 0, 0, 0, 0, 0⟩
section
variable {ops : Array Oper} {rest : List Oper} {o : Oper} {a : Act} {Q : Exit → Act → World → Prop}
theorem bk_one (b : Bk) : ∀ q, q ∈ Bk.cells b → q.oneCell' = true := by
  intro u hu
  simp only [Bk.cells, List.mem_cons, List.not_mem_nil, or_false] at hu
  rcases hu with rfl | rfl | rfl | rfl | rfl | rfl | rfl | rfl <;> rfl
/-- make([]Book, n). -/
theorem bk_make {w W : World} (hgd : o.guard = none) {N : Tmp} (hd : o.dst = some N) (x y : Operand) (ho : o.op = .makeSlice 33 x y) (n : Nat) (hx : a.eval x = .int .i64 n) (hy : a.eval y = .int .i64 n)
    (hn : n ≤ 2097152) (HB : Below w.heap.size w W)
    (h : ∀ v1 w1, kBk.R 27 w1 w.heap.size (fun _ => True) v1 (List.replicate n zBk) → Below w.heap.size w w1 → Below W.heap.size W w1 → (∃ b, v1.ownBlock = some b ∧ W.heap.size ≤ b) → wpList Tryd.prog ops Q rest (a.put o.dst v1) w1) : wpList Tryd.prog ops Q (o :: rest) a W := by
  refine Kd.R_make kBk (w0 := w) w.heap.size 27 hgd hd 33 x y ho (n : Int) hx hy Tryd.underlying33 _ 14 info_bk rfl (by decide) (by decide) zBk (ok := fun _ => True) (okp := fun _ => True) rfl (fun _ h => h) trivial (by omega) (by simp only [Int.toNat_natCast]; omega) HB HB.size ?_
  intro v1 w1 h1 h2 h3 h4
  rw [Int.toNat_natCast] at h1
  exact h v1 w1 h1 h2 ⟨h3.os, h3.tape, h3.output, h3.size, fun k hk => h3.block k hk (by simp)⟩ h4
/-- out[i] = b. -/
theorem bk_store {w W : World} (base : Nat) (hN : o.dst = none) (hgd : o.guard = none) (p x : Operand) (ho : o.op = .store 27 p x) {e : TypeId} {g n cap o' : Nat} (i : Nat) (xs : List Bk) (b : Bk) (ok : Nat → Prop)
    (haddr : a.eval p = .pointer (some ⟨g, o', none⟩)) (hoff : o' = i * 8) (hx : a.eval x = b.val)
    (HO : kBk.R e W base ok (.slice (some ⟨g, 0, none⟩) n cap) xs) (hi : i < n) (HB : Below base w W)
    (h : ∀ w1, kBk.R e w1 base ok (.slice (some ⟨g, 0, none⟩) n cap) (xs.set i b) → Below base w w1 → W.grownBy w1 (some g) → wpList Tryd.prog ops Q rest a w1) : wpList Tryd.prog ops Q (o :: rest) a W := by
  obtain ⟨c, hcl, hM, hcc, _⟩ := Kd.R_elem HO zBk (i : Int) (by omega) (by omega)
  have hcl8 : c.length = 8 := hcl
  refine Kd.R_store kBk (w0 := w) base hN hgd 27 p x ho e (i : Int) 0 xs b b.val (Bk.cells b) c ok (fun k => ok k ∧ k ≠ g) haddr (by simp only [Int.toNat_natCast]; exact hoff) hx rfl (by rw [show (Bk.cells b).length = 8 from rfl]; kernel_rfl) (bk_one b) HO (by omega) (by omega) hcl (fun j u hu => by have := hcc j u hu; simpa using this) (by show 0 + 8 ≤ 8; omega) ?_ (fun k hk => hk) HB ?_
  · show _ = Bk.cells b
    rw [List.drop_of_length_le (by show c.length ≤ 0 + 8; omega)]
    simp
  · intro w1 h1 h2 h3
    rw [Int.toNat_natCast] at h1
    exact h w1 h1 h2 h3
end
end Go.Proofs.YtgibcacciedobaaDoor
