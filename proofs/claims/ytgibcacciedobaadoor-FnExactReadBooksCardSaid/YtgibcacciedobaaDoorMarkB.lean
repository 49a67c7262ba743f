/- The laws' marks on rows of books. -/
import Derived.Test.YtgibcacciedobaaDoorScal
import Derived.StillTailTactics
import Derived.Still
import Derived.Deep.QuietTactic
import Derived.BigQuiet
namespace Go.Proofs.YtgibcacciedobaaDoor
open Go.RowKit Go.Proofs.YtgibcacciedobaaDoorW.PrintWords Go.Proofs.YtgibcacciedobaaDoorW.PrintMore
set_option linter.unusedVariables false
set_option linter.unusedSimpArgs false
set_option maxRecDepth 100000

def markB (m : Int) : Bk := ⟨IntKind.i16.wrap m, (m + 1) % 256, (m + 1 + 1) % 256, (m + 1 + 1 + 1) % 256, IntKind.i16.wrap (m + 1 + 1 + 1 + 1), IntKind.i16.wrap (m + 1 + 1 + 1 + 1 + 1), IntKind.i16.wrap (m + 1 + 1 + 1 + 1 + 1 + 1), IntKind.i16.wrap (m + 1 + 1 + 1 + 1 + 1 + 1 + 1)⟩
def markL (m : Int) : Nat → List Bk
  | 0 => []
  | n + 1 => markB m :: markL (m + 8) n
theorem markL_len (m : Int) (n : Nat) : (markL m n).length = n := by
  induction n generalizing m with
  | zero => rfl
  | succ n ih => simp [markL, ih]
theorem markL_at (m : Int) {n i : Nat} (h : i < n) : (markL m n)[i]? = some (markB (m + 8 * (i : Int))) := by
  induction n generalizing m i with
  | zero => omega
  | succ n ih =>
    rw [markL]
    cases i with
    | zero => simp
    | succ i =>
      rw [List.getElem?_cons_succ, ih (m + 8) (by omega)]
      congr 2
      omega
theorem markL_snoc (m : Int) (n : Nat) : markL m (n + 1) = markL m n ++ [markB (m + 8 * (n : Int))] := by
  induction n generalizing m with
  | zero => simp [markL]
  | succ n ih =>
    rw [markL, ih (m + 8), markL]
    simp only [List.cons_append, List.cons.injEq, true_and]
    congr 3
    omega
theorem markL_set {L : List Bk} {m : Int} {k : Nat} (h : k < L.length) : (markL m k ++ L.drop k).set k (markB (m + 8 * (k : Int))) = markL m (k + 1) ++ L.drop (k + 1) := by
  have hl : (markL m k).length = k := markL_len m k
  rw [List.set_append_right _ _ (by omega), hl, Nat.sub_self, markL_snoc, List.drop_eq_getElem_cons h, List.set_cons_zero]
  simp
/-- All cells of element k are written. -/
theorem own_put8 {w0 W : World} {g n cap : Nat} {xs : List Bk} {k : Nat} (b : Bk) (h : Own kBk 27 w0 W (.slice (some ⟨g, 0, none⟩) n cap) xs) (hk : k < n) :
    Own kBk 27 w0 (W.setCells g (k * 8) (Bk.cells b)) (.slice (some ⟨g, 0, none⟩) n cap) (xs.set k b) ∧ W.grownBy (W.setCells g (k * 8) (Bk.cells b)) (some g) := by
  obtain ⟨c, hcl, _, hcc, _⟩ := Kd.R_elem h zBk (k : Int) (by omega) (by omega)
  have hcl8 : c.length = 8 := hcl
  have := Kd.R_seg (okp := fun _ => False) h (k : Int) (by omega) (by omega) hcl (seg := Bk.cells b) (j := 0) (by simpa using hcc) (by show 0 + 8 ≤ 8; omega) (x' := b) (by
    show _ = Bk.cells b
    rw [List.drop_of_length_le (by show c.length ≤ 0 + 8; omega)]
    simp) (fun _ h => h.elim)
  rw [Int.toNat_natCast] at this
  exact this
theorem own_cells8 {w0 W : World} {g n cap : Nat} {xs : List Bk} {k : Nat} (h : Own kBk 27 w0 W (.slice (some ⟨g, 0, none⟩) n cap) xs) (hk : k < n) :
    ∃ c0 c1 c2 c3 c4 c5 c6 c7, W.cell? ⟨g, k * 8, none⟩ = some c0 ∧ W.cell? ⟨g, k * 8 + 1, none⟩ = some c1 ∧ W.cell? ⟨g, k * 8 + 2, none⟩ = some c2 ∧ W.cell? ⟨g, k * 8 + 3, none⟩ = some c3 ∧ W.cell? ⟨g, k * 8 + 4, none⟩ = some c4 ∧ W.cell? ⟨g, k * 8 + 5, none⟩ = some c5 ∧ W.cell? ⟨g, k * 8 + 6, none⟩ = some c6 ∧ W.cell? ⟨g, k * 8 + 7, none⟩ = some c7 ∧
      W.frozen? ⟨g, k * 8, none⟩ = false ∧ W.frozen? ⟨g, k * 8 + 1, none⟩ = false ∧ W.frozen? ⟨g, k * 8 + 2, none⟩ = false ∧ W.frozen? ⟨g, k * 8 + 3, none⟩ = false ∧ W.frozen? ⟨g, k * 8 + 4, none⟩ = false ∧ W.frozen? ⟨g, k * 8 + 5, none⟩ = false ∧ W.frozen? ⟨g, k * 8 + 6, none⟩ = false ∧ W.frozen? ⟨g, k * 8 + 7, none⟩ = false := by
  obtain ⟨c, hcl, _, hcc, hf⟩ := Kd.R_elem h zBk (k : Int) (by omega) (by omega)
  rw [Int.toNat_natCast] at hcc hf
  have hcl8 : c.length = 8 := hcl
  match c, hcl8 with
  | [c0, c1, c2, c3, c4, c5, c6, c7], _ =>
    exact ⟨c0, c1, c2, c3, c4, c5, c6, c7, hcc 0 _ rfl, hcc 1 _ rfl, hcc 2 _ rfl, hcc 3 _ rfl, hcc 4 _ rfl, hcc 5 _ rfl, hcc 6 _ rfl, hcc 7 _ rfl, hf 0, hf 1, hf 2, hf 3, hf 4, hf 5, hf 6, hf 7⟩
set_option maxHeartbeats 8000000 in
theorem markBookS_c (A : Option Addr) (c : Nat) (L : List Bk) (m : Int) (w0 w : World) (hO : Own kBk 27 w0 w (.slice A L.length c) L) (h0 : 0 ≤ m) (h1 : m ≤ 1000000000) (hn : L.length ≤ 2097152) :
    Calls Tryd.prog 24 #[.slice A L.length c, .int .i64 m] w (Marked kBk 27 w0 w (.slice A L.length c) (markL m L.length) (m + 8 * L.length)) := by
  have HO := Aside0.mk hO
  clear hO
  go_enter Tryd.func24, Tryd.ntmps24
  go_wp2
  go_loopg [1, 5, 6] L.length (fun gk u v v6 wr => ∃ k : Nat, ∃ q : Int, k + gk = L.length ∧ u = .int .i64 q ∧ v = .int .i64 k ∧ Aside0 (q = m + 8 * (k : Int)) ∧ Aside0 (Own kBk 27 w0 wr (.slice A L.length c) (markL m k ++ L.drop k)) ∧ Aside0 (w.grownBy wr (Value.slice A L.length c).ownBlock))
  case atStart => exact ⟨0, m, by omega, rfl, rfl, ⟨by omega⟩, ⟨by simpa [markL] using HO.out⟩, ⟨World.grownBy.refl _ _⟩⟩
  case round =>
    clear HO
    obtain ⟨k, q, hk, rfl, rfl, HQ, HR, HG⟩ := hrel
    have HK := Aside0.mk hk
    by_cases hlt : k < L.length
    · have hlen : (markL m k ++ L.drop k).length = L.length := by simp [markL_len]; omega
      obtain ⟨g, cap, e1, gb, gl, cl, hcl⟩ := Kd.R_form HR.out (by rw [hlen]; omega)
      rw [hlen] at e1
      injection e1 with e1 _ e2
      subst e1 e2
      obtain ⟨c0, c1, c2, c3, c4, c5, c6, c7, d0, d1, d2, d3, d4, d5, d6, d7, f0, f1, f2, f3, f4, f5, f6, f7⟩ := own_cells8 HR.out hlt
      obtain ⟨hp, hg⟩ := own_put8 (markB q) HR.out hlt
      have HP := Aside0.mk (show Own kBk 27 w0 (wr.setCells g (k * 8) (Bk.cells (markB q))) (.slice (some ⟨g, 0, none⟩) L.length c) (markL m (k + 1) ++ L.drop (k + 1)) by
        have hq := HQ.out
        rw [hq] at hp ⊢
        rw [markL_set hlt] at hp; exact hp)
      have HGP := Aside0.mk (show w.grownBy (wr.setCells g (k * 8) (Bk.cells (markB q))) (Value.slice (some ⟨g, 0, none⟩) L.length c).ownBlock from World.grownBy.trans HG.out hg)
      simp only [markB, Bk.cells, World.setCells, Nat.add_assoc, Nat.reduceAdd] at HP HGP
      have i0 : (0 : Int) ≤ (k : Int) := by omega
      have i1 : (k : Int) < (L.length : Int) := by omega
      have i2 : 0 ≤ q := by have := HQ.out; omega
      have i3 : q ≤ 1100000000 := by have := HQ.out; omega
      clear hk hlen gb cl hcl hp hg HR HG
      go_wp2
      refine wp_loop_rounds 4 ?_
      rw [rounds_succ]
      go_wp2
      rw [rounds_succ]
      go_wp2
      rw [rounds_succ]
      go_wp2
      rw [rounds_succ]
      go_wp2
      go_roundg (gk - 1)
      case measure => have := HK.out; omega
      case rel => exact ⟨k + 1, q + 8, by have := HK.out; omega, by go_num, by go_num, ⟨by rw [HQ.out]; omega⟩, by simp only [Nat.add_assoc, Nat.reduceAdd]; exact HP, by simp only [Nat.add_assoc, Nat.reduceAdd]; exact HGP⟩
    · have hkl : k = L.length := by omega
      have HE := Aside0.mk (show Own kBk 27 w0 wr (.slice A L.length c) (markL m L.length) by have h1 := HR.out; rw [hkl] at h1; simpa using h1)
      have HN := Aside0.mk (show q = m + 8 * L.length by rw [HQ.out]; omega)
      clear hk hkl
      go_wp2
      go_ret
      exact ⟨ret_int HN.out, HE.out, HG.out⟩
set_option maxHeartbeats 8000000 in
theorem heldBookS_c (A : Option Addr) (c n : Nat) (m : Int) (w : World) (hL : kBk.C w A n (markL m n)) (h0 : 0 ≤ m) (h1 : m ≤ 1000000000) (hn : n ≤ 2097152) :
    Calls Tryd.prog 25 #[.slice A n c, .int .i64 m] w (RetS w (.int .i64 (m + 8 * n))) := by
  have HL := Aside0.mk hL
  clear hL
  go_enter Tryd.func25, Tryd.ntmps25
  go_wp2
  go_loopg [1, 5, 6] n (fun gk u v v6 wr => ∃ k : Nat, ∃ q : Int, k + gk = n ∧ u = .int .i64 q ∧ v = .int .i64 k ∧ Aside0 (q = m + 8 * (k : Int)) ∧ w = wr)
  case atStart => exact ⟨0, m, by omega, rfl, rfl, ⟨by omega⟩, rfl⟩
  case round =>
    obtain ⟨k, q, hk, rfl, rfl, HQ, rfl⟩ := hrel
    have HK := Aside0.mk hk
    by_cases hlt : k < n
    · obtain ⟨ad, b, rfl, hx, x0, x1, x2, x3, x4, x5, x6, x7⟩ := at_bk HL.out k hlt
      have hxe : b = markB q := by
        have h2 := hx.out
        rw [markL_at m hlt] at h2
        injection h2 with h2
        rw [HQ.out, h2]
      subst hxe
      simp only [markB] at x0 x1 x2 x3 x4 x5 x6 x7
      have y2 : w.cell? ⟨(ad.add (k * 8)).block, (ad.add (k * 8)).off + 1 + 1, none⟩ = _ := x2
      have y3 : w.cell? ⟨(ad.add (k * 8)).block, (ad.add (k * 8)).off + 1 + 2, none⟩ = _ := x3
      have i0 : (0 : Int) ≤ (k : Int) := by omega
      have i1 : (k : Int) < (n : Int) := by omega
      have i2 : 0 ≤ q := by have := HQ.out; omega
      have i3 : q ≤ 1100000000 := by have := HQ.out; omega
      clear hk hx
      go_wp2
      refine wp_loop_rounds 4 ?_
      rw [rounds_succ]
      go_wp2
      rw [rounds_succ]
      go_wp2
      rw [rounds_succ]
      go_wp2
      rw [rounds_succ]
      go_wp2
      go_roundg (gk - 1)
      case measure => have := HK.out; omega
      case rel => exact ⟨k + 1, q + 8, by have := HK.out; omega, by go_num, by go_num, ⟨by rw [HQ.out]; omega⟩, rfl⟩
    · have HN := Aside0.mk (show q = m + 8 * n by rw [HQ.out]; omega)
      clear hk
      go_wp2
      go_ret
      exact ⟨ret_int HN.out, rfl⟩
/-- A marked row, as the reader finds it. -/
theorem heldCB {w0 w : World} {A : Option Addr} {n c : Nat} {m : Int} (h : Own kBk 27 w0 w (.slice A n c) (markL m n)) : kBk.C w A n (markL m n) := by
  have := h.reads
  rwa [markL_len] at this
theorem heldCI {k : IntKind} {e : Nat} {w0 w : World} {A : Option Addr} {n c : Nat} {m : Int} {f : Int → Int} (h : Own (Kd.int k) e w0 w (.slice A n c) ((upI m n).map f)) : (Kd.int k).C w A n ((upI m n).map f) := by
  have := h.reads
  rwa [List.length_map, upI_len] at this
end Go.Proofs.YtgibcacciedobaaDoor
