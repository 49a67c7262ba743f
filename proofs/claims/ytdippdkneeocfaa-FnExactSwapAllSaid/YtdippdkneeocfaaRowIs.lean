/- Rows of books that are written: exchange of two. -/
import Derived.Test.YtdippdkneeocfaaMarkB
import Derived.Test.YtdippdkneeocfaaSrt
import Derived.StillTailTactics
import Derived.Still
import Derived.Deep.QuietTactic
import Derived.BigQuiet
import Derived.BigRegion
import Derived.RegionTactic
import Derived.ChangeAlike
namespace Go.Proofs.Ytdippdkneeocfaa
open Go.RowKit Go.Proofs.YtdippdkneeocfaaW.PrintWords Go.Proofs.YtdippdkneeocfaaW.PrintMore
set_option linter.unusedVariables false
set_option linter.unusedSimpArgs false
set_option maxRecDepth 100000

/-- A row of books is L behind the call; no other block has changed. -/
def RowIs (B : Nat) (ok : Nat → Prop) (w : World) (g n cap : Nat) (L : List Bk) (w' : World) : Prop := kBk.R 27 w' B ok (.slice (some ⟨g, 0, none⟩) n cap) L ∧ w.grownBy w' (some g)
def Writes (B : Nat) (ok : Nat → Prop) (w : World) (g n cap : Nat) (L : List Bk) (en : Ending) (w' : World) : Prop := en = .returned (.tuple #[]) ∧ RowIs B ok w g n cap L w'
theorem row_put8 {W : World} {B : Nat} {ok : Nat → Prop} {g n cap : Nat} {xs : List Bk} {k : Nat} (b : Bk) (h : kBk.R 27 W B ok (.slice (some ⟨g, 0, none⟩) n cap) xs) (hk : k < n) :
    kBk.R 27 (W.setCells g (k * 8) (Bk.cells b)) B ok (.slice (some ⟨g, 0, none⟩) n cap) (xs.set k b) ∧ W.grownBy (W.setCells g (k * 8) (Bk.cells b)) (some g) := by
  obtain ⟨c, hcl, _, hcc, _⟩ := Kd.R_elem h zBk (k : Int) (by omega) (by omega)
  have hcl8 : c.length = 8 := hcl
  have := Kd.R_seg (okp := fun _ => False) h (k : Int) (by omega) (by omega) hcl (seg := Bk.cells b) (j := 0) (by simpa using hcc) (by show 0 + 8 ≤ 8; omega) (x' := b) (by
    show _ = Bk.cells b
    rw [List.drop_of_length_le (by show c.length ≤ 0 + 8; omega)]
    simp) (fun _ h => h.elim)
  rw [Int.toNat_natCast] at this
  exact this
/-- The cells of an element of a row of one's own. -/
theorem row_at {W : World} {B : Nat} {ok : Nat → Prop} {g n cap : Nat} {xs : List Bk} {k : Nat} (h : kBk.R 27 W B ok (.slice (some ⟨g, 0, none⟩) n cap) xs) (hk : k < n) :
    ∃ b, Aside0 (xs[k]? = some b) ∧ W.cell? ⟨g, k * 8, none⟩ = some (.int .i16 b.c) ∧ W.cell? ⟨g, k * 8 + 1, none⟩ = some (.int .u8 b.m0) ∧ W.cell? ⟨g, k * 8 + 2, none⟩ = some (.int .u8 b.m1) ∧ W.cell? ⟨g, k * 8 + 3, none⟩ = some (.int .u8 b.m2) ∧ W.cell? ⟨g, k * 8 + 4, none⟩ = some (.int .i16 b.v) ∧ W.cell? ⟨g, k * 8 + 5, none⟩ = some (.int .i16 b.wd) ∧ W.cell? ⟨g, k * 8 + 6, none⟩ = some (.int .i16 b.h) ∧ W.cell? ⟨g, k * 8 + 7, none⟩ = some (.int .i16 b.wt) ∧
      W.frozen? ⟨g, k * 8, none⟩ = false ∧ W.frozen? ⟨g, k * 8 + 1, none⟩ = false ∧ W.frozen? ⟨g, k * 8 + 2, none⟩ = false ∧ W.frozen? ⟨g, k * 8 + 3, none⟩ = false ∧ W.frozen? ⟨g, k * 8 + 4, none⟩ = false ∧ W.frozen? ⟨g, k * 8 + 5, none⟩ = false ∧ W.frozen? ⟨g, k * 8 + 6, none⟩ = false ∧ W.frozen? ⟨g, k * 8 + 7, none⟩ = false := by
  have hn := (Kd.R_reads' h).1
  obtain ⟨b, hx⟩ : ∃ b, xs[k]? = some b := ⟨_, List.getElem?_eq_getElem (by omega)⟩
  obtain ⟨c, hcl, hM, hcc, hf⟩ := Kd.R_elem h zBk (k : Int) (by omega) (by omega)
  rw [Int.toNat_natCast] at hM hcc hf
  have hg : xs.getD k zBk = b := by simp [List.getD_eq_getElem?_getD, hx]
  rw [hg] at hM
  have hM' : c = Bk.cells b := hM
  subst hM'
  exact ⟨b, ⟨hx⟩, hcc 0 _ rfl, hcc 1 _ rfl, hcc 2 _ rfl, hcc 3 _ rfl, hcc 4 _ rfl, hcc 5 _ rfl, hcc 6 _ rfl, hcc 7 _ rfl, hf 0, hf 1, hf 2, hf 3, hf 4, hf 5, hf 6, hf 7⟩
theorem gr_drew {w w' : World} {row : Option Nat} (h : w.grownBy w' row) : w.grownBy w'.drew row := ⟨h.os, h.tape, h.output, h.size, h.block⟩
/-- Two elements of a row change places. -/
theorem exch {W W' : World} {B : Nat} {ok : Nat → Prop} {w : World} {g n cap : Nat} {C : List Bk} {i j : Nat} {x y : Bk} (h : RowIs B ok w g n cap C W) (hi : i < n) (hj : j < n) (hx : C[i]? = some x) (hy : C[j]? = some y) (e : ((W.setCells g (i * 8) (Bk.cells y)).setCells g (j * 8) (Bk.cells x)).drew = W') :
    RowIs B ok w g n cap (Srt.swp C i j) W' := by
  rw [Srt.swp_at hx hy, ← e]
  clear e
  have h1 := h.1
  have h2 := h.2
  obtain ⟨h3, h4⟩ := row_put8 y h1 hi
  obtain ⟨h5, h6⟩ := row_put8 x h3 hj
  have h7 := (h2.trans h4).trans h6
  exact And.intro (Kd.R_drew h5) (gr_drew h7)
theorem gr_below {w W W' : World} {g : Nat} (h : w.grownBy W (some g)) (hb : Below W.heap.size W W') : w.grownBy W' (some g) := h.trans ⟨hb.os, hb.tape, hb.output, hb.size, fun k hk _ => hb.block k hk⟩
theorem RowIs.below {B : Nat} {ok : Nat → Prop} {w W W' : World} {g n cap : Nat} {C : List Bk} (h : RowIs B ok w g n cap C W) (hb : Below W.heap.size W W') : RowIs B ok w g n cap C W' := ⟨Kd.R_below h.1 hb, gr_below h.2 hb⟩
theorem RowIs.drew {B : Nat} {ok : Nat → Prop} {w W : World} {g n cap : Nat} {C : List Bk} (h : RowIs B ok w g n cap C W) : RowIs B ok w g n cap C W.drew := ⟨Kd.R_drew h.1, gr_drew h.2⟩
theorem RowIs.drewN {B : Nat} {ok : Nat → Prop} {w W : World} {g n cap : Nat} {C : List Bk} (h : RowIs B ok w g n cap C W) (k : Nat) : RowIs B ok w g n cap C (W.drewN k) := ⟨Kd.R_drewN h.1 k, ⟨h.2.os, h.2.tape, h.2.output, h.2.size, h.2.block⟩⟩
theorem row_of {W : World} {B : Nat} {ok : Nat → Prop} {g n cap : Nat} {xs : List Bk} {k : Nat} {b : Bk} (h : kBk.R 27 W B ok (.slice (some ⟨g, 0, none⟩) n cap) xs) (hk : k < n) (hb : xs[k]? = some b) :
    W.cell? ⟨g, k * 8, none⟩ = some (.int .i16 b.c) ∧ W.cell? ⟨g, k * 8 + 1, none⟩ = some (.int .u8 b.m0) ∧ W.cell? ⟨g, k * 8 + 2, none⟩ = some (.int .u8 b.m1) ∧ W.cell? ⟨g, k * 8 + 3, none⟩ = some (.int .u8 b.m2) ∧ W.cell? ⟨g, k * 8 + 4, none⟩ = some (.int .i16 b.v) ∧ W.cell? ⟨g, k * 8 + 5, none⟩ = some (.int .i16 b.wd) ∧ W.cell? ⟨g, k * 8 + 6, none⟩ = some (.int .i16 b.h) ∧ W.cell? ⟨g, k * 8 + 7, none⟩ = some (.int .i16 b.wt) ∧
      W.frozen? ⟨g, k * 8, none⟩ = false ∧ W.frozen? ⟨g, k * 8 + 1, none⟩ = false ∧ W.frozen? ⟨g, k * 8 + 2, none⟩ = false ∧ W.frozen? ⟨g, k * 8 + 3, none⟩ = false ∧ W.frozen? ⟨g, k * 8 + 4, none⟩ = false ∧ W.frozen? ⟨g, k * 8 + 5, none⟩ = false ∧ W.frozen? ⟨g, k * 8 + 6, none⟩ = false ∧ W.frozen? ⟨g, k * 8 + 7, none⟩ = false := by
  obtain ⟨b', hb', r⟩ := row_at h hk
  obtain rfl : b' = b := by have := hb'.out; rw [hb] at this; exact (Option.some.inj this).symm
  exact r
end Go.Proofs.Ytdippdkneeocfaa
