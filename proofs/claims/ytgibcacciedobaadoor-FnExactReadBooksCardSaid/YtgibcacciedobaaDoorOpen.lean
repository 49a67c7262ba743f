/- The laws' arguments, opened: a book, a list of books, lists of numbers. -/
import Derived.Test.YtgibcacciedobaaDoorValid
import Derived.OpenShut
import Derived.Deep.Slices
import Derived.ProofKit
import Derived.ChangeOld
import Derived.Carry
namespace Go.Proofs.YtgibcacciedobaaDoor
open Go.RowKit Go.Proofs.YtgibcacciedobaaDoorW.PrintWords Go.Proofs.YtgibcacciedobaaDoorW.PrintMore
open Go.ChangeShapes Go.WideShapes Go.Deep
set_option linter.unusedVariables false
set_option linter.unusedSimpArgs false
set_option maxRecDepth 100000
theorem cells_i16 : Tryd.prog.cellsOf 22 = 1 := by kernel_rfl
theorem cells_u8 : Tryd.prog.cellsOf 5 = 1 := by kernel_rfl
theorem cells_mark : Tryd.prog.cellsOf 23 = 3 := by kernel_rfl
theorem cells_lbk : Tryd.prog.cellsOf 25 = 8 := by kernel_rfl
theorem laid : laidOutB Tryd.prog = true := by kernel_rfl
section
variable {H : Type} {enc : TypeId × Value → H} {w : World} {base : Nat} {spare : Nat → Bool} {held : Bool} {fuel : Nat} {cs : List Value} {x : DataW H × List MemPlace}
theorem trod_i16 (h : DataW.trod enc Tryd.prog w base spare held fuel 22 cs = some x) : ∃ n, cs = [.int .i16 n] ∧ I16 n := by
  obtain ⟨n, h1, h2, h3⟩ := DataW.trod_int Tryd.underlying22 h
  exact ⟨n, h1, bounds_i16 h3⟩
theorem trod_u8 (h : DataW.trod enc Tryd.prog w base spare held fuel 5 cs = some x) : ∃ n, cs = [.int .u8 n] ∧ U8 n := by
  obtain ⟨n, h1, h2, h3⟩ := DataW.trod_int Tryd.underlying5 h
  exact ⟨n, h1, bounds_u8 h3⟩
theorem some_at {α : Type} {xs : List α} {n i : Nat} (h : xs.length = n) (hi : i < n) : ∃ y, xs[i]? = some y := ⟨xs[i]'(by omega), List.getElem?_eq_getElem (by omega)⟩
theorem trod_book (h : DataW.trod enc Tryd.prog w base spare held fuel 25 cs = some x) : ∃ b : Bk, cs = Bk.cells b ∧ b.ok := by
  obtain ⟨xs, n, _, _, hlen, hxl, hf⟩ := DataW.trod_struct Tryd.underlying25 h
  rw [cells_lbk] at hlen
  have hxl' : xs.length = 6 := hxl
  match cs, hlen with
  | [v0, v1, v2, v3, v4, v5, v6, v7], _ =>
    obtain ⟨y0, e0⟩ := some_at hxl' (show 0 < 6 by omega)
    obtain ⟨y1, e1⟩ := some_at hxl' (show 1 < 6 by omega)
    obtain ⟨y2, e2⟩ := some_at hxl' (show 2 < 6 by omega)
    obtain ⟨y3, e3⟩ := some_at hxl' (show 3 < 6 by omega)
    obtain ⟨y4, e4⟩ := some_at hxl' (show 4 < 6 by omega)
    obtain ⟨y5, e5⟩ := some_at hxl' (show 5 < 6 by omega)
    have g0 : DataW.trod enc Tryd.prog w base spare held n 22 [v0] = some y0 := by simpa [cells_i16] using (hf 0 _ rfl).trans e0
    have g1 : DataW.trod enc Tryd.prog w base spare held n 23 [v1, v2, v3] = some y1 := by simpa [cells_mark] using (hf 1 _ rfl).trans e1
    have g2 : DataW.trod enc Tryd.prog w base spare held n 22 [v4] = some y2 := by simpa [cells_i16] using (hf 2 _ rfl).trans e2
    have g3 : DataW.trod enc Tryd.prog w base spare held n 22 [v5] = some y3 := by simpa [cells_i16] using (hf 3 _ rfl).trans e3
    have g4 : DataW.trod enc Tryd.prog w base spare held n 22 [v6] = some y4 := by simpa [cells_i16] using (hf 4 _ rfl).trans e4
    have g5 : DataW.trod enc Tryd.prog w base spare held n 22 [v7] = some y5 := by simpa [cells_i16] using (hf 5 _ rfl).trans e5
    obtain ⟨n0, h0, b0⟩ := trod_i16 g0
    obtain ⟨n4, h4, b4⟩ := trod_i16 g2
    obtain ⟨n5, h5, b5⟩ := trod_i16 g3
    obtain ⟨n6, h6, b6⟩ := trod_i16 g4
    obtain ⟨n7, h7, b7⟩ := trod_i16 g5
    obtain ⟨zs, m, _, _, _, hzl, hz⟩ := DataW.trod_array Tryd.underlying23 g1
    obtain ⟨z0, k0⟩ := some_at hzl (show 0 < 3 by omega)
    obtain ⟨z1, k1⟩ := some_at hzl (show 1 < 3 by omega)
    obtain ⟨z2, k2⟩ := some_at hzl (show 2 < 3 by omega)
    have q0 : DataW.trod enc Tryd.prog w base spare held m 5 [v1] = some z0 := by simpa [cells_u8] using (hz 0 (by omega)).trans k0
    have q1 : DataW.trod enc Tryd.prog w base spare held m 5 [v2] = some z1 := by simpa [cells_u8] using (hz 1 (by omega)).trans k1
    have q2 : DataW.trod enc Tryd.prog w base spare held m 5 [v3] = some z2 := by simpa [cells_u8] using (hz 2 (by omega)).trans k2
    obtain ⟨n1, h1, b1⟩ := trod_u8 q0
    obtain ⟨n2, h2, b2⟩ := trod_u8 q1
    obtain ⟨n3, h3, b3⟩ := trod_u8 q2
    simp only [List.cons.injEq, and_true] at h0 h1 h2 h3 h4 h5 h6 h7
    subst h0 h1 h2 h3 h4 h5 h6 h7
    exact ⟨⟨n0, n1, n2, n3, n4, n5, n6, n7⟩, rfl, b0, b1, b2, b3, b4, b5, b6, b7⟩
/-- A book by value. -/
theorem open_book {r : Reach} {b0 : Nat} {v : Value} {d : DataW H} {p : List MemPlace} (hv : Value.okWide Tryd.prog w r b0 25 v) (h : DataW.Trod enc Tryd.prog w base spare held 25 v d p) : ∃ b : Bk, v = b.val ∧ b.ok := by
  obtain ⟨cs, rfl, hsz⟩ := okWide_struct Tryd.underlying25 hv
  obtain ⟨fuel, hf⟩ := h
  obtain ⟨b, hb, hok⟩ := trod_book hf
  refine ⟨b, ?_, hok⟩
  have : cs.toList = Bk.cells b := hb
  have e : cs = (Bk.cells b).toArray := by rw [← this]
  rw [e]; rfl
theorem collect {α : Type} (n : Nat) (Q : Nat → α → Prop) (h : ∀ i, i < n → ∃ b, Q i b) : ∃ L : List α, L.length = n ∧ ∀ i b, L[i]? = some b → Q i b := by
  induction n with
  | zero => exact ⟨[], rfl, fun i b h => by simp at h⟩
  | succ n ih =>
    obtain ⟨L, hl, hL⟩ := ih (fun i hi => h i (by omega))
    obtain ⟨b, hb⟩ := h n (by omega)
    refine ⟨L ++ [b], by simp [hl], fun i b' h2 => ?_⟩
    rcases Nat.lt_or_ge i L.length with hi | hi
    · rw [List.getElem?_append_left hi] at h2; exact hL i b' h2
    · have hi' : i = n := by have := (List.getElem?_eq_some_iff.1 h2).1; simp at this; omega
      subst hi'
      rw [List.getElem?_append_right hi, hl, Nat.sub_self] at h2
      have : b = b' := by simpa using h2
      subst this
      exact hb
/-- A list of books. -/
theorem open_books {r : Reach} {b0 : Nat} {v : Value} {d : DataW H} {p : List MemPlace} (hv : Value.okWide Tryd.prog w r b0 30 v) (h : DataW.Trod enc Tryd.prog w 0 (fun _ => true) held 30 v d p) :
    ∃ (A : Option Addr) (c : Nat) (L : List Bk), v = .slice A L.length c ∧ L.length ≤ c ∧ kBk.C w A L.length L ∧ OkL L := by
  obtain ⟨a0, len, cap, rfl⟩ := okWide_slice Tryd.underlying30 hv
  obtain ⟨fuel, hf⟩ := h
  rcases open_slice Tryd.underlying30 hf with ⟨hcs, hx⟩ | ⟨a, len', cap', m, n, D, Pl, hcs, hb, hl, hm, hmm, hx, hi⟩
  · simp only [Value.cells, List.cons.injEq, and_true] at hcs
    have hcs' : Value.slice a0 len cap = .slice none 0 0 := by simpa using hcs
    injection hcs' with e1 e2 e3
    subst e1 e2 e3
    exact ⟨none, 0, [], rfl, Nat.le_refl _, Kd.C_nil kBk w, fun b hb => by cases hb⟩
  · have hcs' : Value.slice a0 len cap = .slice (some a) len' cap' := by simpa [Value.cells] using hcs
    injection hcs' with e1 e2 e3
    subst e1 e2 e3
    rw [if_pos rfl] at hmm
    subst hmm
    rw [cells_lbk] at hi
    have hE : ∀ i, i < len → ∃ b : Bk, b.ok ∧ ∀ j u, (Bk.cells b)[j]? = some u → w.cell? (a.add (i * 8 + j)) = some u := by
      intro i hil
      obtain ⟨cs', hc, ht⟩ := hi i (by omega)
      obtain ⟨b, rfl, hok⟩ := trod_book ht
      obtain ⟨_, hcl, hat⟩ := World.cells?_some hc
      refine ⟨b, hok, fun j u hu => ?_⟩
      have hj : j < 8 := by have := (List.getElem?_eq_some_iff.1 hu).1; exact this
      have := hat j hj
      rw [Go.Deep.add_add] at this
      rw [this, hu]
    obtain ⟨L, hLl, hL⟩ := collect _ _ hE
    subst hLl
    refine ⟨some a, _, L, rfl, hl, ⟨rfl, by unfold maxLen at hm; omega, fun _ => ⟨a, rfl, fun j p hj => ⟨Bk.cells p, rfl, rfl, (hL j p hj).2⟩⟩⟩, fun b hb => ?_⟩
    obtain ⟨i, hi⟩ := List.mem_iff_getElem?.1 hb
    exact (hL i b hi).1
end
end Go.Proofs.YtgibcacciedobaaDoor
