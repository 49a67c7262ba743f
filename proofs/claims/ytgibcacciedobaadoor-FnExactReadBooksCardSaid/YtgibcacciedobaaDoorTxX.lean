/- ReadBook: the reference's. -/
import Derived.Test.YtgibcacciedobaaDoorTxO
import Derived.StillTailTactics
import Derived.Still
import Derived.Deep.QuietTactic
import Derived.BigQuiet
namespace Go.Proofs.YtgibcacciedobaaDoor
open Go.RowKit Go.Proofs.YtgibcacciedobaaDoorW.PrintWords Go.Proofs.YtgibcacciedobaaDoorW.PrintMore
set_option linter.unusedVariables false
set_option linter.unusedSimpArgs false
set_option maxRecDepth 100000

def gdT (t : Bs) : Prop := nmK t = true ∧ nmV t ≤ 9999
theorem gd_dg {n : Int} (h0 : 0 ≤ n) (h1 : n ≤ 9999) : gdT (dg n) ∧ nmV (dg n) = n := by
  obtain ⟨h2, h3⟩ := nm_some (numL_dg h0 (by omega))
  have : nmV (dg n) = n := by rw [h2]; omega
  exact ⟨⟨h3, by rw [this]; exact h1⟩, this⟩
theorem rs_two {l w0 w2 w3 w4 : Bs} {x y z : UInt8} (h : splitL 32 l = [w0, [x, y, z], w2, w3, w4]) (hn : (splitL 120 w3).length ≠ 2) (b : Bk) : ¬ RdB l b := fun hr => by
  have := (rd_spec_words h hr).1
  rw [this] at hn
  exact hn rfl
theorem rs_words {l w0 w2 w3 w4 p q : Bs} {x y z : UInt8} (h : splitL 32 l = [w0, [x, y, z], w2, w3, w4]) (h3 : splitL 120 w3 = [p, q]) {b : Bk} (hr : RdB l b) :
    (∀ t ∈ [w0, w2, p, q, w4], gdT t) ∧ b = ⟨nmV w0, x.toNat, y.toNat, z.toNat, nmV w2, nmV p, nmV q, nmV w4⟩ := by
  obtain ⟨e3, e0, e2, e4, ex, ey, ez⟩ := rd_spec_words h hr
  rw [h3] at e3
  simp only [List.cons.injEq, and_true] at e3
  obtain ⟨rfl, rfl⟩ := e3
  have hv := vB1 hr.1
  have k0 := gd_dg (n := b.c) hv.c.1 (by have := hv.c.2; omega)
  have k1 := gd_dg (n := b.v) (by have := hv.v; omega) (by have := hv.v; omega)
  have k2 := gd_dg (n := b.wd) (by have := hv.wd; omega) (by have := hv.wd; omega)
  have k3 := gd_dg (n := b.h) (by have := hv.h; omega) (by have := hv.h; omega)
  have k4 := gd_dg (n := b.wt) (by have := hv.wt; omega) (by have := hv.wt; omega)
  subst e0 e2 e4
  refine ⟨?_, ?_⟩
  · intro t ht
    simp only [List.mem_cons, List.mem_nil_iff, or_false] at ht
    rcases ht with rfl | rfl | rfl | rfl | rfl
    · exact k0.1
    · exact k1.1
    · exact k2.1
    · exact k3.1
    · exact k4.1
  · rw [k0.2, k1.2, k2.2, k3.2, k4.2, ex, ey, ez, u8_back hv.m0, u8_back hv.m1, u8_back hv.m2]
theorem rs_num {t : Bs} (h : nmK t = true) : ∃ n, numL t = some n ∧ nmV t = n := by
  unfold nmK at h
  obtain ⟨n, hn⟩ := Option.isSome_iff_exists.1 h
  exact ⟨n, hn, (nm_some hn).1⟩
theorem rs_case {l w0 w2 w3 w4 p q : Bs} {x y z : UInt8} (h : splitL 32 l = [w0, [x, y, z], w2, w3, w4]) (h3 : splitL 120 w3 = [p, q]) (hg : ∀ t ∈ [w0, w2, p, q, w4], gdT t) :
    (vBook ⟨nmV w0, x.toNat, y.toNat, z.toNat, nmV w2, nmV p, nmV q, nmV w4⟩ = true → bkV l = ⟨nmV w0, x.toNat, y.toNat, z.toNat, nmV w2, nmV p, nmV q, nmV w4⟩ ∧ bkK l = true) ∧
    (vBook ⟨nmV w0, x.toNat, y.toNat, z.toNat, nmV w2, nmV p, nmV q, nmV w4⟩ = false → bkV l = Bk0 ∧ bkK l = false) := by
  obtain ⟨n0, m0, e0⟩ := rs_num (hg w0 (by simp)).1
  obtain ⟨n1, m1, e1⟩ := rs_num (hg w2 (by simp)).1
  obtain ⟨n2, m2, e2⟩ := rs_num (hg p (by simp)).1
  obtain ⟨n3, m3, e3⟩ := rs_num (hg q (by simp)).1
  obtain ⟨n4, m4, e4⟩ := rs_num (hg w4 (by simp)).1
  have ht := rd_spec h h3 m0 m1 m2 m3 m4
  rw [e0, e1, e2, e3, e4]
  refine ⟨fun hv => bk_ok ⟨hv, ht⟩, fun hv => bk_no (fun b hb => ?_)⟩
  have := (rs_words h h3 hb).2
  rw [e0, e1, e2, e3, e4] at this
  rw [← this, hb.1] at hv
  cases hv
theorem at2 {a0 a1 : Bs} {w : World} {A : Option Addr} (h : Kd.string.C w A 2 ([a0, a1].map bS)) :
    ∃ ad, A = some ad ∧ w.cell? ad = some (.string (bS a0)) ∧ w.cell? ⟨ad.block, ad.off + 1, none⟩ = some (.string (bS a1)) := by
  obtain ⟨ad, x0, rfl, h0, e0⟩ := at_str (ws := [a0, a1]) h 0 (by decide) rfl
  obtain ⟨d1, x1, k1, h1, e1⟩ := at_str (ws := [a0, a1]) h 1 (by decide) rfl
  cases k1
  have h0 := h0.out; have h1 := h1.out
  cases h0; cases h1
  exact ⟨ad, rfl, e0, e1⟩
theorem two {α : Type} {l : List α} (h : l.length = 2) : ∃ a0 a1, l = [a0, a1] := by
  match l, h with
  | [a0, a1], _ => exact ⟨a0, a1, rfl⟩
def nmCs (ts : List Bs) (k : Nat) : Array Value := ((ts.take k).map (fun t => Value.int .i64 (nmV t)) ++ List.replicate (ts.length - k) (Value.int .i64 0)).toArray
theorem nmCs_set {ts : List Bs} {k : Nat} {x : Bs} (h : ts[k]? = some x) : (nmCs ts k).setIfInBounds k (.int .i64 (nmV x)) = nmCs ts (k + 1) := by
  have hk := (List.getElem?_eq_some_iff.1 h).1
  unfold nmCs
  rw [List.setIfInBounds_toArray]
  congr 1
  have hl : ((ts.take k).map (fun t => Value.int .i64 (nmV t))).length = k := by rw [List.length_map, List.length_take]; omega
  rw [take_snoc h, List.map_append, List.set_append_right _ _ (by omega), hl, Nat.sub_self]
  obtain ⟨m, hm⟩ : ∃ m, ts.length - k = m + 1 := ⟨ts.length - k - 1, by omega⟩
  rw [hm, List.replicate_succ, List.set_cons_zero, show ts.length - (k + 1) = m by omega, List.append_assoc]
  rfl
theorem nmCs_at {ts : List Bs} {k : Nat} {x : Bs} (h : ts[k]? = some x) : (nmCs ts k)[k]? = some (.int .i64 0) := by
  have hk := (List.getElem?_eq_some_iff.1 h).1
  unfold nmCs
  have hl : ((ts.take k).map (fun t => Value.int .i64 (nmV t))).length = k := by rw [List.length_map, List.length_take]; omega
  rw [List.getElem?_toArray, List.getElem?_append_right (by omega), hl, Nat.sub_self, List.getElem?_replicate, if_pos (by omega)]
theorem gdT_i {t : Bs} (h : gdT t) : (0 ≤ nmV t ∧ nmV t ≤ 9999) ∧ IntKind.i16.wrap (nmV t) = nmV t := by
  have h0 : 0 ≤ nmV t := by unfold nmV; omega
  exact ⟨⟨h0, h.2⟩, i16_low ⟨h0, by have := h.2; omega⟩⟩
/-- Five texts stored over a row. -/
def put5 (W : World) (g : Nat) (a b c d e : Bs) : World := ((((W.setCell ⟨g, 0, none⟩ (.string (bS a))).setCell ⟨g, 1, none⟩ (.string (bS b))).setCell ⟨g, 2, none⟩ (.string (bS c))).setCell ⟨g, 3, none⟩ (.string (bS d))).setCell ⟨g, 4, none⟩ (.string (bS e))
def strCs (ts : List Bs) : Array Value := (ts.map (fun t => Value.string (bS t))).toArray
theorem put5_blk {W : World} {g : Nat} {t : TypeId} {z0 z1 z2 z3 z4 : Value} (a b c d e : Bs) (h : W.heap[g]? = some (.cells #[z0, z1, z2, z3, z4] t (0, 0))) : (put5 W g a b c d e).heap[g]? = some (.cells (strCs [a, b, c, d, e]) t (0, 0)) := by
  unfold put5
  have h7 := blk_set (blk_set (blk_set (blk_set (blk_set h 0 (.string (bS a))) 1 (.string (bS b))) 2 (.string (bS c))) 3 (.string (bS d))) 4 (.string (bS e))
  simpa only [List.setIfInBounds_toArray, List.set_cons_zero, List.set_cons_succ, strCs, List.map_cons, List.map_nil] using h7
theorem put5_below {w0 W : World} {n g : Nat} (a b c d e : Bs) (h : Below n w0 W) (hg : n ≤ g) : Below n w0 (put5 W g a b c d e) := by
  unfold put5
  exact Below.setCell (Below.setCell (Below.setCell (Below.setCell (Below.setCell h (p := ⟨g, 0, none⟩) hg _) (p := ⟨g, 1, none⟩) hg _) (p := ⟨g, 2, none⟩) hg _) (p := ⟨g, 3, none⟩) hg _) (p := ⟨g, 4, none⟩) hg _
theorem strCs_at {ts : List Bs} {k : Nat} {x : Bs} (h : ts[k]? = some x) : (strCs ts)[k]? = some (.string (bS x)) := by
  unfold strCs
  rw [List.getElem?_toArray, List.getElem?_map, h]
  rfl
/-- A mark stored over a book's. -/
def put3 (W : World) (g : Nat) (x y z : UInt8) : World := ((W.setCell ⟨g, 1, none⟩ (.int .u8 x.toNat)).setCell ⟨g, 2, none⟩ (.int .u8 y.toNat)).setCell ⟨g, 3, none⟩ (.int .u8 z.toNat)
theorem put3_blk {W : World} {g : Nat} {t : TypeId} {z0 z1 z2 z3 z4 z5 z6 z7 : Value} (x y z : UInt8) (h : W.heap[g]? = some (.cells #[z0, z1, z2, z3, z4, z5, z6, z7] t (0, 0))) :
    (put3 W g x y z).heap[g]? = some (.cells #[z0, .int .u8 x.toNat, .int .u8 y.toNat, .int .u8 z.toNat, z4, z5, z6, z7] t (0, 0)) := by
  unfold put3
  have h7 := blk_set (blk_set (blk_set h 1 (.int .u8 x.toNat)) 2 (.int .u8 y.toNat)) 3 (.int .u8 z.toNat)
  simpa only [List.setIfInBounds_toArray, List.set_cons_zero, List.set_cons_succ] using h7
theorem put3_far {W : World} {g g' : Nat} {t : TypeId} {cs : Array Value} (x y z : UInt8) (h : W.heap[g']? = some (.cells cs t (0, 0))) (hg : g' ≠ g) : (put3 W g x y z).heap[g']? = some (.cells cs t (0, 0)) :=
  blk_far (blk_far (blk_far h (p := ⟨g, 1, none⟩) hg _) (p := ⟨g, 2, none⟩) hg _) (p := ⟨g, 3, none⟩) hg _
theorem put3_below {w W : World} {g : Nat} (x y z : UInt8) (h : Below w.heap.size w W) (hg : w.heap.size ≤ g) : Below w.heap.size w (put3 W g x y z) := by
  unfold put3
  exact Below.setCell (Below.setCell (Below.setCell h (p := ⟨g, 1, none⟩) hg _) (p := ⟨g, 2, none⟩) hg _) (p := ⟨g, 3, none⟩) hg _
set_option maxHeartbeats 8000000 in
theorem specReadBook_c (l : Bs) (hl : l.length ≤ 1048576) (w : World) : Calls Tryd.prog 19 #[.string (bS l)] w (Ret w (.tuple #[(bkV l).val, .int .i64 (bkE l)])) := by
  have hb0 : Below w.heap.size w (w.alloc (.cells #[.int .i16 0, .int .u8 0, .int .u8 0, .int .u8 0, .int .i16 0, .int .i16 0, .int .i16 0, .int .i16 0] 27)) := balloc (Below.refl _ _) _
  have hbx := blk_new w (.cells #[.int .i16 0, .int .u8 0, .int .u8 0, .int .u8 0, .int .i16 0, .int .i16 0, .int .i16 0, .int .i16 0] 27)
  have HS := Aside0.mk (fun W => l01Split_c 32 32 rfl l hl W)
  have HML := Aside0.mk (fun x hx => Nat.le_trans (splitL_mem 32 l x hx) hl)
  have HE := Aside0.mk (fun (h : bkV l = Bk0 ∧ bkK l = false) => show bkV l = Bk0 ∧ bkE l = 5 from ⟨h.1, by unfold bkE; rw [h.2]; rfl⟩)
  by_cases hn : (splitL 32 l).length = 5
  · obtain ⟨a0, a1, a2, a3, a4, hws⟩ := five hn
    clear hn
    have e5 : (((([a0, a1, a2, a3, a4] : List Bs).length : Nat) : Int) != 5) = false := rfl
    by_cases h3 : a1.length = 3
    · obtain ⟨x, y, z, rfl⟩ := three h3
      have e3 : ((((bS [x, y, z]).size : Nat) : Int) != 3) = false := rfl
      by_cases hs : (splitL 120 a3).length = 2
      · obtain ⟨p, q, h120⟩ := two hs
        have e2 : (((([p, q] : List Bs).length : Nat) : Int) != 2) = false := rfl
        have HU := Aside0.mk (fun W (h : a3.length ≤ 1048576) => l01Split_c 120 120 rfl a3 h W)
        have HBAD := Aside0.mk (fun (t : Bs) (ht : t ∈ [a0, a2, p, q, a4]) (h : ¬ gdT t) => HE.out (bk_no (fun b hb => h ((rs_words hws h120 hb).1 t ht))))
        have HGOOD := Aside0.mk (fun h => rs_case hws h120 h)
        have HPQ := Aside0.mk (fun (t : Bs) (ht : t ∈ splitL 120 a3) => splitL_mem 120 a3 t ht)
        rw [hws] at HS HML
        rw [h120] at HU HPQ
        clear hws h3 hs h120
        have l3 := HML.out a3 (by simp)
        have HN := Aside0.mk (fun (t : Bs) (ht : t ∈ [a0, a2, p, q, a4]) (W : World) => l01Number_c t (by
          simp only [List.mem_cons, List.mem_nil_iff, or_false] at ht
          rcases ht with rfl | rfl | rfl | rfl | rfl
          · exact HML.out _ (by simp)
          · exact HML.out _ (by simp)
          · exact Nat.le_trans (HPQ.out _ (by simp)) l3
          · exact Nat.le_trans (HPQ.out _ (by simp)) l3
          · exact HML.out _ (by simp)) W)
        go_enter Tryd.func19, Tryd.ntmps19
        go_wp2_with fail
        generalize World.alloc w _ = W1 at hbx hb0 ⊢
        refine (HS.out W1).mono ?_; rintro _ w1 ⟨_, rfl, hb1, A1, c1, rfl, hc1, hC1⟩
        have HB1 := Aside0.mk (bstep hb0 hb1)
        have HX1 := Aside0.mk (blk_below hbx hb1)
        obtain ⟨ad, rfl, d0, d1, d2, d3, d4⟩ := at5 hC1
        clear hb1 hC1 hc1 hbx hb0 HS
        go_wp2_with fail
        refine (HU.out w1 l3).mono ?_; rintro _ w2 ⟨_, rfl, hb2, A2, c2, rfl, hc2, hC2⟩
        have HB2 := Aside0.mk (bstep HB1.out hb2)
        have HX2 := Aside0.mk (blk_below HX1.out hb2)
        have g0 := pw_cell_below hb2 d0
        have g1 := pw_cell_below hb2 d1
        have g2 := pw_cell_below hb2 d2
        have g4 := pw_cell_below hb2 d4
        obtain ⟨ad2, rfl, p0, p1⟩ := at2 hC2
        clear d0 d1 d2 d3 d4 HU hb2 hC2 hc2 HX1 HB1
        go_wp2_with fail
        have hbd : Below w2.heap.size w2 w2.drew := bdrew (Below.refl _ _)
        have HB3 := Aside0.mk (bstep HB2.out hbd)
        have HX3 := Aside0.mk (blk_below HX2.out hbd)
        have d0 := pw_cell_below hbd g0
        have d1 := pw_cell_below hbd g1
        have d2 := pw_cell_below hbd g2
        have d4 := pw_cell_below hbd g4
        have q0 := pw_cell_below hbd p0
        have q1 := pw_cell_below hbd p1
        clear g0 g1 g2 g4 p0 p1 HB2 HX2
        refine region_HO (G := Ov) 17 (by kernel_rfl) (by kernel_rfl) ?_
        generalize World.drew w2 = wb at HB3 HX3 d0 d1 d2 d4 q0 q1 ⊢
        clear hbd
        refine HO_take Keep.ov (i := 0) (v := ?_) rfl (by kernel_rfl) (by kernel_rfl) (by kernel_rfl) (by decide) (fun _ _ _ h => h) (fun b' hb' => Or.inl ⟨by kernel_rfl, fun W hW => ?_⟩) ?_
        rotate_left
        · have hW' := hb'.step hW
          go_simp
          with_reducible rfl
        refine HO_take Keep.ov (i := 1) (v := ?_) rfl (by kernel_rfl) (by kernel_rfl) (by kernel_rfl) (by decide) (fun _ _ _ h => h) (fun b' hb' => Or.inl ⟨by kernel_rfl, fun W hW => ?_⟩) ?_
        rotate_left
        · have hW' := hb'.step hW
          go_simp
          with_reducible rfl
        refine HO_take Keep.ov (i := 2) (v := ?_) rfl (by kernel_rfl) (by kernel_rfl) (by kernel_rfl) (by decide) (fun _ _ _ h => h) (fun b' hb' => Or.inl ⟨by kernel_rfl, fun W hW => ?_⟩) ?_
        rotate_left
        · have hW' := hb'.step hW
          have q_0 := pw_cell_below hW' d0
          go_simp
          with_reducible rfl
        refine HO_take Keep.ov (i := 3) (v := ?_) rfl (by kernel_rfl) (by kernel_rfl) (by kernel_rfl) (by decide) (fun _ _ _ h => h) (fun b' hb' => Or.inl ⟨by kernel_rfl, fun W hW => ?_⟩) ?_
        rotate_left
        · have hW' := hb'.step hW
          go_simp
          with_reducible rfl
        refine HO_take Keep.ov (i := 4) (v := ?_) rfl (by kernel_rfl) (by kernel_rfl) (by kernel_rfl) (by decide) (fun _ _ _ h => h) (fun b' hb' => Or.inl ⟨by kernel_rfl, fun W hW => ?_⟩) ?_
        rotate_left
        · have hW' := hb'.step hW
          go_simp
          with_reducible rfl
        refine HO_take Keep.ov (i := 5) (v := ?_) rfl (by kernel_rfl) (by kernel_rfl) (by kernel_rfl) (by decide) (fun _ _ _ h => h) (fun b' hb' => Or.inl ⟨by kernel_rfl, fun W hW => ?_⟩) ?_
        rotate_left
        · have hW' := hb'.step hW
          have q_0 := pw_cell_below hW' d2
          go_simp
          with_reducible rfl
        refine HO_take Keep.ov (i := 6) (v := ?_) rfl (by kernel_rfl) (by kernel_rfl) (by kernel_rfl) (by decide) (fun _ _ _ h => h) (fun b' hb' => Or.inl ⟨by kernel_rfl, fun W hW => ?_⟩) ?_
        rotate_left
        · have hW' := hb'.step hW
          go_simp
          with_reducible rfl
        refine HO_take Keep.ov (i := 7) (v := ?_) rfl (by kernel_rfl) (by kernel_rfl) (by kernel_rfl) (by decide) (fun _ _ _ h => h) (fun b' hb' => Or.inl ⟨by kernel_rfl, fun W hW => ?_⟩) ?_
        rotate_left
        · have hW' := hb'.step hW
          go_simp
          with_reducible rfl
        refine HO_take Keep.ov (i := 8) (v := ?_) rfl (by kernel_rfl) (by kernel_rfl) (by kernel_rfl) (by decide) (fun _ _ _ h => h) (fun b' hb' => Or.inl ⟨by kernel_rfl, fun W hW => ?_⟩) ?_
        rotate_left
        · have hW' := hb'.step hW
          have q_0 := pw_cell_below hW' q0
          go_simp
          with_reducible rfl
        refine HO_take Keep.ov (i := 9) (v := ?_) rfl (by kernel_rfl) (by kernel_rfl) (by kernel_rfl) (by decide) (fun _ _ _ h => h) (fun b' hb' => Or.inl ⟨by kernel_rfl, fun W hW => ?_⟩) ?_
        rotate_left
        · have hW' := hb'.step hW
          go_simp
          with_reducible rfl
        refine HO_take Keep.ov (i := 10) (v := ?_) rfl (by kernel_rfl) (by kernel_rfl) (by kernel_rfl) (by decide) (fun _ _ _ h => h) (fun b' hb' => Or.inl ⟨by kernel_rfl, fun W hW => ?_⟩) ?_
        rotate_left
        · have hW' := hb'.step hW
          go_simp
          with_reducible rfl
        refine HO_take Keep.ov (i := 11) (v := ?_) rfl (by kernel_rfl) (by kernel_rfl) (by kernel_rfl) (by decide) (fun _ _ _ h => h) (fun b' hb' => Or.inl ⟨by kernel_rfl, fun W hW => ?_⟩) ?_
        rotate_left
        · have hW' := hb'.step hW
          have q_0 := pw_cell_below hW' q1
          go_simp
          with_reducible rfl
        refine HO_take Keep.ov (i := 12) (v := ?_) rfl (by kernel_rfl) (by kernel_rfl) (by kernel_rfl) (by decide) (fun _ _ _ h => h) (fun b' hb' => Or.inl ⟨by kernel_rfl, fun W hW => ?_⟩) ?_
        rotate_left
        · have hW' := hb'.step hW
          go_simp
          with_reducible rfl
        refine HO_take Keep.ov (i := 13) (v := ?_) rfl (by kernel_rfl) (by kernel_rfl) (by kernel_rfl) (by decide) (fun _ _ _ h => h) (fun b' hb' => Or.inl ⟨by kernel_rfl, fun W hW => ?_⟩) ?_
        rotate_left
        · have hW' := hb'.step hW
          go_simp
          with_reducible rfl
        refine HO_take Keep.ov (i := 14) (v := ?_) rfl (by kernel_rfl) (by kernel_rfl) (by kernel_rfl) (by decide) (fun _ _ _ h => h) (fun b' hb' => Or.inl ⟨by kernel_rfl, fun W hW => ?_⟩) ?_
        rotate_left
        · have hW' := hb'.step hW
          have q_0 := pw_cell_below hW' d4
          go_simp
          with_reducible rfl
        refine HO_take Keep.ov (i := 15) (v := ?_) rfl (by kernel_rfl) (by kernel_rfl) (by kernel_rfl) (by decide) (fun _ _ _ h => h) (fun b' hb' => Or.inl ⟨by kernel_rfl, fun W hW => ?_⟩) ?_
        rotate_left
        · have hW' := hb'.step hW
          go_simp
          with_reducible rfl
        refine HO_step (i := 16) rfl (by kernel_rfl) (by decide) (by kernel_rfl) (fun W2 hW2 K hK => ?_)
        go_simp
        refine hK _ _ (balloc (Below.refl _ _) _) ?_
        clear hK K
        have HZ := Aside0.mk (blk_new W2 (.cells #[.string ⟨#[]⟩, .string ⟨#[]⟩, .string ⟨#[]⟩, .string ⟨#[]⟩, .string ⟨#[]⟩] 73))
        have HW := Aside0.mk (hW2.step (balloc (Below.refl W2.heap.size W2) (.cells #[.string ⟨#[]⟩, .string ⟨#[]⟩, .string ⟨#[]⟩, .string ⟨#[]⟩, .string ⟨#[]⟩] 73)))
        have HG := Aside0.mk hW2.size
        clear hW2 d0 d2 d4 q0 q1
        generalize World.alloc W2 _ = W3 at HZ HW ⊢
        generalize W2.heap.size = gT at HZ HG ⊢
        refine HO_end (by kernel_rfl) (fun W hW => ?_)
        have hz := blk_below HZ.out hW
        have hww := HW.out.step hW
        have hsb : Below wb.heap.size wb (put5 W gT a0 a2 p q a4) := put5_below a0 a2 p q a4 hww HG.out
        have HT5 := Aside0.mk (put5_blk a0 a2 p q a4 hz)
        have HX5 := Aside0.mk (blk_below HX3.out hsb)
        have HB5 := Aside0.mk (bstep HB3.out hsb)
        have HD5 := Aside0.mk (pw_cell_below hsb d1)
        clear hW HZ HW HG HX3 HB3 d1 hww hsb
        have c0 := blk_cell hz 0
        have f0 := blk_frozen hz 0
        have c1 := blk_cell hz 1
        have f1 := blk_frozen hz 1
        have c2 := blk_cell hz 2
        have f2 := blk_frozen hz 2
        have c3 := blk_cell hz 3
        have f3 := blk_frozen hz 3
        have c4 := blk_cell hz 4
        have f4 := blk_frozen hz 4
        simp only [List.getElem?_toArray, List.getElem?_cons_zero, List.getElem?_cons_succ] at c0 c1 c2 c3 c4
        go_wp2_with fail
        clear hz c0 c1 c2 c3 c4 f0 f1 f2 f3 f4
        change Code.wp _ _ _ _ (World.alloc (put5 W gT a0 a2 p q a4) (.cells #[.int .i64 0, .int .i64 0, .int .i64 0, .int .i64 0, .int .i64 0] 74))
        have hgN : (put5 W gT a0 a2 p q a4).heap.size = W.heap.size := by simp [put5]
        generalize put5 W gT a0 a2 p q a4 = W5 at HT5 HX5 HB5 HD5 hgN ⊢
        generalize W.heap.size = gN at hgN ⊢
        subst hgN
        obtain ⟨ts, hts⟩ : ∃ ts, [a0, a2, p, q, a4] = ts := ⟨_, rfl⟩
        have hlen : ts.length = 5 := by rw [← hts]; rfl
        rw [hts] at HT5 HN HBAD
        have HN0 := Aside0.mk (blk_new W5 (.cells (nmCs ts 0) 74))
        have HBS := Aside0.mk (balloc (Below.refl W5.heap.size W5) (.cells (nmCs ts 0) 74))
        rw [show (#[.int .i64 0, .int .i64 0, .int .i64 0, .int .i64 0, .int .i64 0] : Array Value) = nmCs ts 0 by rw [← hts]; rfl]
        go_loopg [8] 5 (fun gk v8 wr => ∃ k : Nat, k + gk = 5 ∧ v8 = .int .i64 k ∧ Aside0 (∀ t, t ∈ ts.take k → gdT t) ∧ Aside0 (wr.heap[W5.heap.size]? = some (.cells (nmCs ts k) 74 (0, 0))) ∧ Aside0 (Below W5.heap.size W5 wr))
        case atStart => exact ⟨0, by omega, rfl, ⟨by simp⟩, HN0, HBS⟩
        case round =>
          clear HN0 HBS
          obtain ⟨k, hk, rfl, hp, hN, hb⟩ := hrel
          have HK := Aside0.mk hk
          by_cases hlt : k < 5
          · obtain ⟨t, hbk⟩ : ∃ t, ts[k]? = some t := ⟨_, List.getElem?_eq_getElem (by omega)⟩
            have HBK := Aside0.mk hbk
            have hc := (blk_cell (blk_below HT5.out hb.out) k).trans (strCs_at hbk)
            have HD := Aside0.mk (HN.out t (mem_of hbk) wr)
            have HBX := Aside0.mk (fun h => HBAD.out t (mem_of hbk) h)
            have i0 : (0 : Int) ≤ (k : Int) := by omega
            have i1 : (k : Int) < 5 := by omega
            clear hk hbk
            cases ho : nmK t
            · have HV := Aside0.mk (HBX.out (fun h => by rw [h.1] at ho; cases ho))
              rw [ho] at HD
              generalize nmV t = n at HD
              clear ho
              go_wp2_with fail
              refine HD.out.mono ?_; rintro _ w3 ⟨rfl, hb3⟩
              have hx3 := blk_below (blk_below HX5.out hb.out) hb3
              have HB3 := Aside0.mk (bstep (bstep HB5.out hb.out) hb3)
              clear hb3 hc
              have c0 := blk_cell hx3 0
              have f0 := blk_frozen hx3 0
              have c1 := blk_cell hx3 1
              have f1 := blk_frozen hx3 1
              have c2 := blk_cell hx3 2
              have f2 := blk_frozen hx3 2
              have c3 := blk_cell hx3 3
              have f3 := blk_frozen hx3 3
              have c4 := blk_cell hx3 4
              have f4 := blk_frozen hx3 4
              have c5 := blk_cell hx3 5
              have f5 := blk_frozen hx3 5
              have c6 := blk_cell hx3 6
              have f6 := blk_frozen hx3 6
              have c7 := blk_cell hx3 7
              have f7 := blk_frozen hx3 7
              simp only [List.getElem?_toArray, List.getElem?_cons_zero, List.getElem?_cons_succ] at c0 c1 c2 c3 c4 c5 c6 c7
              go_wp2
              refine bodyPost_ret (v := .tuple #[Bk0.val, .int .i64 5]) (by simp [results, Tryd.results19, go_sem, c0, c1, c2, c3, c4, c5, c6, c7, f0, f1, f2, f3, f4, f5, f6, f7, Bk.val]) rfl ⟨ret_bkE HV.out.1.symm HV.out.2.symm, ?_⟩
              repeat (refine Below.setCell ?_ (by simp) _)
              exact HB3.out
            · rw [ho] at HD
              by_cases hbig : 9999 < nmV t
              · have HV := Aside0.mk (HBX.out (fun h => by have := h.2; omega))
                generalize nmV t = n at HD hbig
                clear ho
                go_wp2_with fail
                refine HD.out.mono ?_; rintro _ w3 ⟨rfl, hb3⟩
                have hx3 := blk_below (blk_below HX5.out hb.out) hb3
                have HB3 := Aside0.mk (bstep (bstep HB5.out hb.out) hb3)
                clear hb3 hc
                have c0 := blk_cell hx3 0
                have f0 := blk_frozen hx3 0
                have c1 := blk_cell hx3 1
                have f1 := blk_frozen hx3 1
                have c2 := blk_cell hx3 2
                have f2 := blk_frozen hx3 2
                have c3 := blk_cell hx3 3
                have f3 := blk_frozen hx3 3
                have c4 := blk_cell hx3 4
                have f4 := blk_frozen hx3 4
                have c5 := blk_cell hx3 5
                have f5 := blk_frozen hx3 5
                have c6 := blk_cell hx3 6
                have f6 := blk_frozen hx3 6
                have c7 := blk_cell hx3 7
                have f7 := blk_frozen hx3 7
                simp only [List.getElem?_toArray, List.getElem?_cons_zero, List.getElem?_cons_succ] at c0 c1 c2 c3 c4 c5 c6 c7
                go_wp2
                refine bodyPost_ret (v := .tuple #[Bk0.val, .int .i64 5]) (by simp [results, Tryd.results19, go_sem, c0, c1, c2, c3, c4, c5, c6, c7, f0, f1, f2, f3, f4, f5, f6, f7, Bk.val]) rfl ⟨ret_bkE HV.out.1.symm HV.out.2.symm, ?_⟩
                repeat (refine Below.setCell ?_ (by simp) _)
                exact HB3.out
              · have HP := Aside0.mk (fun (t' : Bs) (h : t' ∈ ts.take (k + 1)) => show gdT t' by
                  rw [take_snoc HBK.out] at h
                  rcases List.mem_append.1 h with h | h
                  · exact hp.out t' h
                  · rw [List.mem_singleton.1 h]; exact ⟨ho, by omega⟩)
                have HSET := Aside0.mk (nmCs_set HBK.out)
                have hcz := nmCs_at HBK.out
                generalize nmV t = n at HD hbig HSET
                clear ho
                go_wp2_with fail
                refine HD.out.mono ?_; rintro _ w3 ⟨rfl, hb3⟩
                have hN3 := blk_below hN.out hb3
                have HB3 := Aside0.mk (bstep hb.out hb3)
                have cN := (blk_cell hN3 k).trans hcz
                have fN := blk_frozen hN3 k
                have HN4 := Aside0.mk (blk_set hN3 k (.int .i64 n))
                have HB4 := Aside0.mk (Below.setCell HB3.out (p := ⟨W5.heap.size, k, none⟩) (Nat.le_refl _) (.int .i64 n))
                clear hb3 hc hN3 hcz
                go_wp2
                go_roundg (gk - 1)
                case measure => have := HK.out; omega
                case rel => exact ⟨k + 1, by have := HK.out; omega, by go_num, HP, ⟨by rw [← HSET.out]; exact HN4.out⟩, HB4⟩
          · have hk5 : k = 5 := by omega
            subst hk5
            have HGD := Aside0.mk (HGOOD.out (fun t ht => hp.out t (by rw [List.take_of_length_le (by omega), ← hts]; exact ht)))
            subst hts
            have hN5 : wr.heap[W5.heap.size]? = some (.cells #[.int .i64 (nmV a0), .int .i64 (nmV a2), .int .i64 (nmV p), .int .i64 (nmV q), .int .i64 (nmV a4)] 74 (0, 0)) := hN.out
            have HOK := Aside0.mk (fun t ht => hp.out t ht)
            have HX6 := Aside0.mk (blk_below HX5.out hb.out)
            have HB6 := Aside0.mk (bstep HB5.out hb.out)
            have hd6 := pw_cell_below hb.out HD5.out
            have r0 := (gdT_i (HOK.out a0 (by simp)))
            have r1 := (gdT_i (HOK.out a2 (by simp)))
            have r2 := (gdT_i (HOK.out p (by simp)))
            have r3 := (gdT_i (HOK.out q (by simp)))
            have r4 := (gdT_i (HOK.out a4 (by simp)))
            have HR := Aside0.mk (And.intro r0.1 (And.intro r1.1 (And.intro r2.1 (And.intro r3.1 r4.1))))
            obtain ⟨-, iw0⟩ := r0
            obtain ⟨-, iw1⟩ := r1
            obtain ⟨-, iw2⟩ := r2
            obtain ⟨-, iw3⟩ := r3
            obtain ⟨-, iw4⟩ := r4
            clear hN hp hb hk HN HBAD HT5 HX5 HB5 HD5
            generalize nmV a0 = n0 at hN5 HGD HR iw0
            generalize nmV a2 = n1 at hN5 HGD HR iw1
            generalize nmV p = n2 at hN5 HGD HR iw2
            generalize nmV q = n3 at hN5 HGD HR iw3
            generalize nmV a4 = n4 at hN5 HGD HR iw4
            have c0 := blk_cell hN5 0
            have f0 := blk_frozen hN5 0
            have c1 := blk_cell hN5 1
            have f1 := blk_frozen hN5 1
            have c2 := blk_cell hN5 2
            have f2 := blk_frozen hN5 2
            have c3 := blk_cell hN5 3
            have f3 := blk_frozen hN5 3
            have c4 := blk_cell hN5 4
            have f4 := blk_frozen hN5 4
            simp only [List.getElem?_toArray, List.getElem?_cons_zero, List.getElem?_cons_succ] at c0 c1 c2 c3 c4
            go_wp2_with fail
            have hbk := blk_new wr (.cells #[.int .i16 n0, .int .u8 0, .int .u8 0, .int .u8 0, .int .i16 n1, .int .i16 n2, .int .i16 n3, .int .i16 n4] 27)
            have hba : Below wr.heap.size wr (wr.alloc (.cells #[.int .i16 n0, .int .u8 0, .int .u8 0, .int .u8 0, .int .i16 n1, .int .i16 n2, .int .i16 n3, .int .i16 n4] 27)) := balloc (Below.refl _ _) _
            have hne : ad.block ≠ wr.heap.size := Nat.ne_of_lt (World.block_lt_of_cell? wr ⟨ad.block, ad.off + 1, none⟩ hd6)
            have hg1 := Aside0.mk (show w.heap.size ≤ wr.heap.size by have := blk_lt HX6.out; omega)
            have hne2 := Aside0.mk (show w.heap.size ≠ wr.heap.size by have := blk_lt HX6.out; omega)
            have hd8 := pw_cell_below hba hd6
            have HX8 := Aside0.mk (blk_below HX6.out hba)
            have HB8 := Aside0.mk (bstep HB6.out hba)
            have hsz3 : (bS [x, y, z]).size = 3 := rfl
            have hne' := hne.symm
            clear c0 c1 c2 c3 c4 f0 f1 f2 f3 f4 hd6 hba hN5 HX6 HB6
            generalize World.alloc wr _ = W8 at hbk hd8 HX8 HB8 ⊢
            generalize wr.heap.size = gB at hbk hne hne' hg1 hne2 ⊢
            have HBK := Aside0.mk hbk
            have c0 := blk_cell hbk 0
            have f0 := blk_frozen hbk 0
            have c1 := blk_cell hbk 1
            have f1 := blk_frozen hbk 1
            have c2 := blk_cell hbk 2
            have f2 := blk_frozen hbk 2
            have c3 := blk_cell hbk 3
            have f3 := blk_frozen hbk 3
            have c4 := blk_cell hbk 4
            have f4 := blk_frozen hbk 4
            have c5 := blk_cell hbk 5
            have f5 := blk_frozen hbk 5
            have c6 := blk_cell hbk 6
            have f6 := blk_frozen hbk 6
            have c7 := blk_cell hbk 7
            have f7 := blk_frozen hbk 7
            simp only [List.getElem?_toArray, List.getElem?_cons_zero, List.getElem?_cons_succ] at c0 c1 c2 c3 c4 c5 c6 c7
            refine wp_loop_rounds 4 ?_
            rw [rounds_succ]
            go_wp2
            rw [rounds_succ]
            go_wp2
            rw [rounds_succ]
            go_wp2
            rw [rounds_succ]
            go_wp2_with fail
            change Calls _ _ _ (put3 W8 gB x y z) _
            have hB9 := put3_blk x y z HBK.out
            have HX9 := Aside0.mk (put3_far x y z HX8.out hne2.out)
            have HB9 := Aside0.mk (put3_below x y z HB8.out hg1.out)
            clear c0 c1 c2 c3 c4 c5 c6 c7 f0 f1 f2 f3 f4 f5 f6 f7 hd8 HX8 HB8 hbk HBK
            generalize put3 W8 gB x y z = W9 at hB9 HX9 HB9 ⊢
            have HAT := Aside0.mk (show BkAt W9 ⟨gB, 0, none⟩ ⟨n0, x.toNat, y.toNat, z.toNat, n1, n2, n3, n4⟩ from ⟨blk_cell hB9 0, blk_cell hB9 1, blk_cell hB9 2, blk_cell hB9 3, blk_cell hB9 4, blk_cell hB9 5, blk_cell hB9 6, blk_cell hB9 7⟩)
            have HOKB := Aside0.mk (show (⟨n0, x.toNat, y.toNat, z.toNat, n1, n2, n3, n4⟩ : Bk).ok by
              obtain ⟨q0, q1, q2, q3, q4⟩ := HR.out
              have := x.toNat_lt; have := y.toNat_lt; have := z.toNat_lt
              exact ⟨⟨by simp; omega, by simp; omega⟩, ⟨by simp, by simp; omega⟩, ⟨by simp, by simp; omega⟩, ⟨by simp, by simp; omega⟩, ⟨by simp; omega, by simp; omega⟩, ⟨by simp; omega, by simp; omega⟩, ⟨by simp; omega, by simp; omega⟩, ⟨by simp; omega, by simp; omega⟩⟩)
            have HI := Aside0.mk (fun W h => l01Book_c _ HOKB.out ⟨gB, 0, none⟩ W h)
            cases hv : vBook ⟨n0, x.toNat, y.toNat, z.toNat, n1, n2, n3, n4⟩
            · have HV := Aside0.mk (HE.out (HGD.out.2 hv))
              rw [hv] at HI
              clear hv
              refine (HI.out _ HAT.out).mono ?_; rintro _ w9 ⟨rfl, hb9⟩
              have hx9 := blk_below HX9.out hb9
              have hy9 := blk_below hB9 hb9
              have HB10 := Aside0.mk (bstep HB9.out hb9)
              clear hb9
              have c0 := blk_cell hx9 0
              have f0 := blk_frozen hx9 0
              have c1 := blk_cell hx9 1
              have f1 := blk_frozen hx9 1
              have c2 := blk_cell hx9 2
              have f2 := blk_frozen hx9 2
              have c3 := blk_cell hx9 3
              have f3 := blk_frozen hx9 3
              have c4 := blk_cell hx9 4
              have f4 := blk_frozen hx9 4
              have c5 := blk_cell hx9 5
              have f5 := blk_frozen hx9 5
              have c6 := blk_cell hx9 6
              have f6 := blk_frozen hx9 6
              have c7 := blk_cell hx9 7
              have f7 := blk_frozen hx9 7
              simp only [List.getElem?_toArray, List.getElem?_cons_zero, List.getElem?_cons_succ] at c0 c1 c2 c3 c4 c5 c6 c7
              have d0 := blk_cell hy9 0
              have h0 := blk_frozen hy9 0
              have d1 := blk_cell hy9 1
              have h1 := blk_frozen hy9 1
              have d2 := blk_cell hy9 2
              have h2 := blk_frozen hy9 2
              have d3 := blk_cell hy9 3
              have h3 := blk_frozen hy9 3
              have d4 := blk_cell hy9 4
              have h4 := blk_frozen hy9 4
              have d5 := blk_cell hy9 5
              have h5 := blk_frozen hy9 5
              have d6 := blk_cell hy9 6
              have h6 := blk_frozen hy9 6
              have d7 := blk_cell hy9 7
              have h7 := blk_frozen hy9 7
              simp only [List.getElem?_toArray, List.getElem?_cons_zero, List.getElem?_cons_succ] at d0 d1 d2 d3 d4 d5 d6 d7
              go_wp2
              refine bodyPost_ret (v := .tuple #[Bk0.val, .int .i64 5]) (by simp [results, Tryd.results19, go_sem, c0, c1, c2, c3, c4, c5, c6, c7, f0, f1, f2, f3, f4, f5, f6, f7, Bk.val]) rfl ⟨ret_bkE HV.out.1.symm HV.out.2.symm, ?_⟩
              repeat (refine Below.setCell ?_ (by simp) _)
              exact HB10.out
            · have HV := Aside0.mk (show bkV l = ⟨n0, x.toNat, y.toNat, z.toNat, n1, n2, n3, n4⟩ ∧ bkE l = 0 from ⟨(HGD.out.1 hv).1, by unfold bkE; rw [(HGD.out.1 hv).2]; rfl⟩)
              rw [hv] at HI
              clear hv
              refine (HI.out _ HAT.out).mono ?_; rintro _ w9 ⟨rfl, hb9⟩
              have hx9 := blk_below HX9.out hb9
              have hy9 := blk_below hB9 hb9
              have HB10 := Aside0.mk (bstep HB9.out hb9)
              clear hb9
              have c0 := blk_cell hx9 0
              have f0 := blk_frozen hx9 0
              have c1 := blk_cell hx9 1
              have f1 := blk_frozen hx9 1
              have c2 := blk_cell hx9 2
              have f2 := blk_frozen hx9 2
              have c3 := blk_cell hx9 3
              have f3 := blk_frozen hx9 3
              have c4 := blk_cell hx9 4
              have f4 := blk_frozen hx9 4
              have c5 := blk_cell hx9 5
              have f5 := blk_frozen hx9 5
              have c6 := blk_cell hx9 6
              have f6 := blk_frozen hx9 6
              have c7 := blk_cell hx9 7
              have f7 := blk_frozen hx9 7
              simp only [List.getElem?_toArray, List.getElem?_cons_zero, List.getElem?_cons_succ] at c0 c1 c2 c3 c4 c5 c6 c7
              have d0 := blk_cell hy9 0
              have h0 := blk_frozen hy9 0
              have d1 := blk_cell hy9 1
              have h1 := blk_frozen hy9 1
              have d2 := blk_cell hy9 2
              have h2 := blk_frozen hy9 2
              have d3 := blk_cell hy9 3
              have h3 := blk_frozen hy9 3
              have d4 := blk_cell hy9 4
              have h4 := blk_frozen hy9 4
              have d5 := blk_cell hy9 5
              have h5 := blk_frozen hy9 5
              have d6 := blk_cell hy9 6
              have h6 := blk_frozen hy9 6
              have d7 := blk_cell hy9 7
              have h7 := blk_frozen hy9 7
              simp only [List.getElem?_toArray, List.getElem?_cons_zero, List.getElem?_cons_succ] at d0 d1 d2 d3 d4 d5 d6 d7
              go_wp2
              refine bodyPost_ret (v := .tuple #[(⟨n0, x.toNat, y.toNat, z.toNat, n1, n2, n3, n4⟩ : Bk).val, .int .i64 0]) (by simp [results, Tryd.results19, go_sem, c0, c1, c2, c3, c4, c5, c6, c7, f0, f1, f2, f3, f4, f5, f6, f7, Bk.val]) rfl ⟨ret_bkE HV.out.1.symm HV.out.2.symm, ?_⟩
              repeat (refine Below.setCell ?_ (by simp) _)
              exact HB10.out
      · have HN := Aside0.mk (HE.out (bk_no (rs_two hws hs)))
        have HU := Aside0.mk (fun W (h : a3.length ≤ 1048576) => l01Split_c 120 120 rfl a3 h W)
        have e2 : (((splitL 120 a3).length : Int) != 2) = true := by simp; omega
        rw [hws] at HS HML
        clear hws h3 hs
        have l3 := HML.out a3 (by simp)
        generalize splitL 120 a3 = ws at HU e2
        go_enter Tryd.func19, Tryd.ntmps19
        go_wp2_with fail
        generalize World.alloc w _ = W1 at hbx hb0 ⊢
        refine (HS.out W1).mono ?_; rintro _ w1 ⟨_, rfl, hb1, A1, c1, rfl, hc1, hC1⟩
        have HB1 := Aside0.mk (bstep hb0 hb1)
        have HX1 := Aside0.mk (blk_below hbx hb1)
        obtain ⟨ad, rfl, d0, d1, d2, d3, d4⟩ := at5 hC1
        clear hb1 hC1 hbx
        go_wp2_with fail
        refine (HU.out w1 l3).mono ?_; rintro _ w2 ⟨_, rfl, hb2, A2, c2, rfl, hc2, hC2⟩
        have hx1 := blk_below HX1.out hb2
        have HB2 := Aside0.mk (bstep HB1.out hb2)
        clear d0 d1 d2 d3 d4 hb2 hC2
        have c0 := blk_cell hx1 0
        have f0 := blk_frozen hx1 0
        have c1 := blk_cell hx1 1
        have f1 := blk_frozen hx1 1
        have c2 := blk_cell hx1 2
        have f2 := blk_frozen hx1 2
        have c3 := blk_cell hx1 3
        have f3 := blk_frozen hx1 3
        have c4 := blk_cell hx1 4
        have f4 := blk_frozen hx1 4
        have c5 := blk_cell hx1 5
        have f5 := blk_frozen hx1 5
        have c6 := blk_cell hx1 6
        have f6 := blk_frozen hx1 6
        have c7 := blk_cell hx1 7
        have f7 := blk_frozen hx1 7
        simp only [List.getElem?_toArray, List.getElem?_cons_zero, List.getElem?_cons_succ] at c0 c1 c2 c3 c4 c5 c6 c7
        go_wp2
        refine bodyPost_ret (v := .tuple #[Bk0.val, .int .i64 5]) (by simp [results, Tryd.results19, go_sem, c0, c1, c2, c3, c4, c5, c6, c7, f0, f1, f2, f3, f4, f5, f6, f7, Bk.val]) rfl ⟨ret_bkE HN.out.1.symm HN.out.2.symm, ?_⟩
        repeat (refine Below.setCell ?_ (by simp) _)
        exact HB2.out
    · have HN := Aside0.mk (HE.out (bk_no (rd_none3 hws h3)))
      rw [hws] at HS HML
      have e3 : ((((bS a1).size : Nat) : Int) != 3) = true := by rw [bS_size]; simp; omega
      clear hws h3
      go_enter Tryd.func19, Tryd.ntmps19
      go_wp2_with fail
      generalize World.alloc w _ = W1 at hbx hb0 ⊢
      refine (HS.out W1).mono ?_; rintro _ w1 ⟨_, rfl, hb1, A1, c1, rfl, hc1, hC1⟩
      have HB1 := Aside0.mk (bstep hb0 hb1)
      have hx1 := blk_below hbx hb1
      obtain ⟨ad, rfl, d0, d1, d2, d3, d4⟩ := at5 hC1
      clear hb1 hC1 hbx
      have c0 := blk_cell hx1 0
      have f0 := blk_frozen hx1 0
      have c1 := blk_cell hx1 1
      have f1 := blk_frozen hx1 1
      have c2 := blk_cell hx1 2
      have f2 := blk_frozen hx1 2
      have c3 := blk_cell hx1 3
      have f3 := blk_frozen hx1 3
      have c4 := blk_cell hx1 4
      have f4 := blk_frozen hx1 4
      have c5 := blk_cell hx1 5
      have f5 := blk_frozen hx1 5
      have c6 := blk_cell hx1 6
      have f6 := blk_frozen hx1 6
      have c7 := blk_cell hx1 7
      have f7 := blk_frozen hx1 7
      simp only [List.getElem?_toArray, List.getElem?_cons_zero, List.getElem?_cons_succ] at c0 c1 c2 c3 c4 c5 c6 c7
      go_wp2
      refine bodyPost_ret (v := .tuple #[Bk0.val, .int .i64 5]) (by simp [results, Tryd.results19, go_sem, c0, c1, c2, c3, c4, c5, c6, c7, f0, f1, f2, f3, f4, f5, f6, f7, Bk.val]) rfl ⟨ret_bkE HN.out.1.symm HN.out.2.symm, ?_⟩
      repeat (refine Below.setCell ?_ (by simp) _)
      exact HB1.out
  · have HN := Aside0.mk (HE.out (bk_no (rd_none hn)))
    have hn' : (((splitL 32 l).length : Int) != 5) = true := by simp; omega
    clear hn
    generalize splitL 32 l = ws at HS HML hn'
    go_enter Tryd.func19, Tryd.ntmps19
    go_wp2_with fail
    generalize World.alloc w _ = W1 at hbx hb0 ⊢
    refine (HS.out W1).mono ?_; rintro _ w1 ⟨_, rfl, hb1, A1, c1_, rfl, hc1, hC1⟩
    have HB1 := Aside0.mk (bstep hb0 hb1)
    have hx1 := blk_below hbx hb1
    clear hb1 hC1 hbx
    have c0 := blk_cell hx1 0
    have f0 := blk_frozen hx1 0
    have c1 := blk_cell hx1 1
    have f1 := blk_frozen hx1 1
    have c2 := blk_cell hx1 2
    have f2 := blk_frozen hx1 2
    have c3 := blk_cell hx1 3
    have f3 := blk_frozen hx1 3
    have c4 := blk_cell hx1 4
    have f4 := blk_frozen hx1 4
    have c5 := blk_cell hx1 5
    have f5 := blk_frozen hx1 5
    have c6 := blk_cell hx1 6
    have f6 := blk_frozen hx1 6
    have c7 := blk_cell hx1 7
    have f7 := blk_frozen hx1 7
    simp only [List.getElem?_toArray, List.getElem?_cons_zero, List.getElem?_cons_succ] at c0 c1 c2 c3 c4 c5 c6 c7
    go_wp2
    refine bodyPost_ret (v := .tuple #[Bk0.val, .int .i64 5]) (by simp [results, Tryd.results19, go_sem, c0, c1, c2, c3, c4, c5, c6, c7, f0, f1, f2, f3, f4, f5, f6, f7, Bk.val]) rfl ⟨ret_bkE HN.out.1.symm HN.out.2.symm, ?_⟩
    repeat (refine Below.setCell ?_ (by simp) _)
    exact HB1.out
end Go.Proofs.YtgibcacciedobaaDoor
