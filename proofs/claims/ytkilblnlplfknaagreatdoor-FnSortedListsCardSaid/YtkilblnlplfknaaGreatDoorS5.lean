/- Texts of this proof that belong together: TxJ, TxO, WkBookText. No condition. -/
import Derived.Test.YtkilblnlplfknaaGreatDoorS4
import Derived.StillTailTactics
import Derived.Still
import Derived.Deep.QuietTactic
import Derived.BigQuiet
import Derived.Lib.ConvBytes
import Derived.Lib.AtoiErrMem
section
/- ReadBook: the program's and the reference's. -/
namespace Go.Proofs.YtkilblnlplfknaaGreatDoor
open Go.RowKit Go.Proofs.YtkilblnlplfknaaGreatDoorW.PrintWords Go.Proofs.YtkilblnlplfknaaGreatDoorW.PrintMore
set_option linter.unusedVariables false
set_option linter.unusedSimpArgs false
set_option maxRecDepth 100000

abbrev Bk0 : Bk := ⟨0, 0, 0, 0, 0, 0, 0, 0⟩
open Classical in
/-- The book of a text, none if there is none. -/
noncomputable def bkV (l : Bs) : Bk := if h : ∃ b, RdB l b then Classical.choose h else Bk0
open Classical in
noncomputable def bkK (l : Bs) : Bool := if ∃ b, RdB l b then true else false
theorem bk_ok {l : Bs} {b : Bk} (h : RdB l b) : bkV l = b ∧ bkK l = true := by
  have hx : ∃ b, RdB l b := ⟨b, h⟩
  unfold bkV bkK
  rw [dif_pos hx, if_pos hx]
  exact ⟨(Classical.choose_spec hx).unique h, rfl⟩
theorem bk_no {l : Bs} (h : ∀ b, ¬ RdB l b) : bkV l = Bk0 ∧ bkK l = false := by
  have hx : ¬ ∃ b, RdB l b := fun ⟨b, hb⟩ => h b hb
  unfold bkV bkK
  rw [dif_neg hx, if_neg hx]
  exact ⟨rfl, rfl⟩
theorem splitL_mem (c : UInt8) : ∀ (l : Bs) (w : Bs), w ∈ splitL c l → w.length ≤ l.length
  | [], w, h => by rw [splitL, List.mem_singleton] at h; rw [h]; exact Nat.le_refl _
  | x :: l, w, h => by
    have ih := splitL_mem c l
    rw [splitL] at h
    split at h
    · rcases List.mem_cons.1 h with rfl | h
      · exact Nat.zero_le _
      · exact Nat.le_succ_of_le (ih w h)
    · split at h
      · rw [List.mem_singleton] at h
        rw [h]
        simp
      · rename_i v r hs
        rcases List.mem_cons.1 h with rfl | h
        · have := ih v (by rw [hs]; simp)
          simp only [List.length_cons]
          omega
        · exact Nat.le_succ_of_le (ih w (by rw [hs]; simp [h]))
theorem ret_bk {a b : Bk} {c d : Bool} (h : a = b) (k : c = d) : Ending.returned (.tuple #[a.val, .bool c]) = .returned (.tuple #[b.val, .bool d]) := by rw [h, k]
theorem five {α : Type} {l : List α} (h : l.length = 5) : ∃ a0 a1 a2 a3 a4, l = [a0, a1, a2, a3, a4] := by
  match l, h with
  | [a0, a1, a2, a3, a4], _ => exact ⟨a0, a1, a2, a3, a4, rfl⟩
theorem three {α : Type} {l : List α} (h : l.length = 3) : ∃ a0 a1 a2, l = [a0, a1, a2] := by
  match l, h with
  | [a0, a1, a2], _ => exact ⟨a0, a1, a2, rfl⟩
theorem at5 {a0 a1 a2 a3 a4 : Bs} {w : World} {A : Option Addr} (h : Kd.string.C w A 5 ([a0, a1, a2, a3, a4].map bS)) :
    ∃ ad, A = some ad ∧ w.cell? ad = some (.string (bS a0)) ∧ w.cell? ⟨ad.block, ad.off + 1, none⟩ = some (.string (bS a1)) ∧ w.cell? ⟨ad.block, ad.off + 2, none⟩ = some (.string (bS a2)) ∧ w.cell? ⟨ad.block, ad.off + 3, none⟩ = some (.string (bS a3)) ∧ w.cell? ⟨ad.block, ad.off + 4, none⟩ = some (.string (bS a4)) := by
  obtain ⟨ad, x0, rfl, h0, e0⟩ := at_str (ws := [a0, a1, a2, a3, a4]) h 0 (by decide) rfl
  obtain ⟨d1, x1, k1, h1, e1⟩ := at_str (ws := [a0, a1, a2, a3, a4]) h 1 (by decide) rfl
  obtain ⟨d2, x2, k2, h2, e2⟩ := at_str (ws := [a0, a1, a2, a3, a4]) h 2 (by decide) rfl
  obtain ⟨d3, x3, k3, h3, e3⟩ := at_str (ws := [a0, a1, a2, a3, a4]) h 3 (by decide) rfl
  obtain ⟨d4, x4, k4, h4, e4⟩ := at_str (ws := [a0, a1, a2, a3, a4]) h 4 (by decide) rfl
  cases k1; cases k2; cases k3; cases k4
  have h0 := h0.out; have h1 := h1.out; have h2 := h2.out; have h3 := h3.out; have h4 := h4.out
  cases h0; cases h1; cases h2; cases h3; cases h4
  exact ⟨ad, rfl, e0, e1, e2, e3, e4⟩
/-- What the program's reading hands back. -/
def rbV (l : Bs) : Bk := match splitL 32 l with
  | [a0, [x, y, z], a2, a3, a4] => bkOf a0 a2 a3 a4 x y z
  | _ => Bk0
theorem rb_five {l w0 w2 w3 w4 : Bs} {x y z : UInt8} (h : splitL 32 l = [w0, [x, y, z], w2, w3, w4]) : rbV l = bkOf w0 w2 w3 w4 x y z := by unfold rbV; rw [h]
theorem rb_n {l : Bs} (h : (splitL 32 l).length ≠ 5) : rbV l = Bk0 := by
  unfold rbV
  split
  · rename_i e
    rw [e] at h
    exact absurd rfl h
  · rfl
theorem rb_n3 {l w0 w1 w2 w3 w4 : Bs} (h : splitL 32 l = [w0, w1, w2, w3, w4]) (h3 : w1.length ≠ 3) : rbV l = Bk0 := by
  unfold rbV
  rw [h]
  split
  · rename_i e
    cases e
    exact absurd rfl h3
  · rfl
theorem rd_case {l w0 w2 w3 w4 : Bs} {x y z : UInt8} (h : splitL 32 l = [w0, [x, y, z], w2, w3, w4]) :
    if (vBook (bkOf w0 w2 w3 w4 x y z) && (bkT (bkOf w0 w2 w3 w4 x y z) == l)) = true then bkV l = bkOf w0 w2 w3 w4 x y z ∧ bkK l = true else bkV l = Bk0 ∧ bkK l = false := by
  have hr := rd_impl h 1
  split
  · rename_i hc
    rw [if_pos hc, if_pos hc] at hr
    rcases hr with ⟨_, hb⟩ | ⟨h0, _⟩
    · exact bk_ok hb
    · cases h0
  · rename_i hc
    rw [if_neg hc, if_neg hc] at hr
    rcases hr with ⟨h0, _⟩ | ⟨_, _, hb⟩
    · cases h0
    · exact bk_no hb
theorem rb_ok {l : Bs} (h : bkK l = true) : rbV l = bkV l := by
  by_cases hn : (splitL 32 l).length = 5
  · obtain ⟨a0, a1, a2, a3, a4, hws⟩ := five hn
    by_cases h3 : a1.length = 3
    · obtain ⟨x, y, z, rfl⟩ := three h3
      have := rd_case hws
      split at this
      · rw [this.1, rb_five hws]
      · rw [this.2] at h
        cases h
    · rw [(bk_no (rd_none3 hws h3)).2] at h
      cases h
  · rw [(bk_no (rd_none hn)).2] at h
    cases h
theorem rd_k {l w0 w2 w3 w4 : Bs} {x y z : UInt8} (h : splitL 32 l = [w0, [x, y, z], w2, w3, w4]) : bkK l = (vBook (bkOf w0 w2 w3 w4 x y z) && (bkT (bkOf w0 w2 w3 w4 x y z) == l)) := by
  have := rd_case h
  split at this
  · rename_i hc
    rw [hc, this.2]
  · rename_i hc
    rw [this.2]
    exact ((Bool.not_eq_true _).mp hc).symm
theorem cut_len1 (c : UInt8) (l : Bs) : (Go.Lib.cut l [c]).1.length ≤ l.length ∧ (Go.Lib.cut l [c]).2.1.length ≤ l.length := by
  unfold Go.Lib.cut
  split <;> simp <;> omega
/-- A book stored over a book. -/
def put8 (W : World) (g : Nat) (b : Bk) : World := (((((((W.setCell ⟨g, 0, none⟩ (.int .i16 b.c)).setCell ⟨g, 1, none⟩ (.int .u8 b.m0)).setCell ⟨g, 2, none⟩ (.int .u8 b.m1)).setCell ⟨g, 3, none⟩ (.int .u8 b.m2)).setCell ⟨g, 4, none⟩ (.int .i16 b.v)).setCell ⟨g, 5, none⟩ (.int .i16 b.wd)).setCell ⟨g, 6, none⟩ (.int .i16 b.h)).setCell ⟨g, 7, none⟩ (.int .i16 b.wt)
abbrev bkCs (b : Bk) : Array Value := #[.int .i16 b.c, .int .u8 b.m0, .int .u8 b.m1, .int .u8 b.m2, .int .i16 b.v, .int .i16 b.wd, .int .i16 b.h, .int .i16 b.wt]
theorem put8_blk {W : World} {g : Nat} {t : TypeId} {z0 z1 z2 z3 z4 z5 z6 z7 : Value} (b : Bk) (h : W.heap[g]? = some (.cells #[z0, z1, z2, z3, z4, z5, z6, z7] t (0, 0))) : (put8 W g b).heap[g]? = some (.cells (bkCs b) t (0, 0)) := by
  unfold put8
  have h7 := blk_set (blk_set (blk_set (blk_set (blk_set (blk_set (blk_set (blk_set h 0 (.int .i16 b.c)) 1 (.int .u8 b.m0)) 2 (.int .u8 b.m1)) 3 (.int .u8 b.m2)) 4 (.int .i16 b.v)) 5 (.int .i16 b.wd)) 6 (.int .i16 b.h)) 7 (.int .i16 b.wt)
  simpa only [List.setIfInBounds_toArray, List.set_cons_zero, List.set_cons_succ] using h7
theorem put8_far {W : World} {g g' : Nat} {t : TypeId} {cs : Array Value} (b : Bk) (h : W.heap[g']? = some (.cells cs t (0, 0))) (hg : g' ≠ g) : (put8 W g b).heap[g']? = some (.cells cs t (0, 0)) :=
  blk_far (blk_far (blk_far (blk_far (blk_far (blk_far (blk_far (blk_far h (p := ⟨g, 0, none⟩) hg _) (p := ⟨g, 1, none⟩) hg _) (p := ⟨g, 2, none⟩) hg _) (p := ⟨g, 3, none⟩) hg _) (p := ⟨g, 4, none⟩) hg _) (p := ⟨g, 5, none⟩) hg _) (p := ⟨g, 6, none⟩) hg _) (p := ⟨g, 7, none⟩) hg _
theorem put8_below {w W : World} {g : Nat} (b : Bk) (h : Below w.heap.size w W) (hg : w.heap.size ≤ g) : Below w.heap.size w (put8 W g b) := by
  unfold put8
  exact Below.setCell (Below.setCell (Below.setCell (Below.setCell (Below.setCell (Below.setCell (Below.setCell (Below.setCell h (p := ⟨g, 0, none⟩) hg _) (p := ⟨g, 1, none⟩) hg _) (p := ⟨g, 2, none⟩) hg _) (p := ⟨g, 3, none⟩) hg _) (p := ⟨g, 4, none⟩) hg _) (p := ⟨g, 5, none⟩) hg _) (p := ⟨g, 6, none⟩) hg _) (p := ⟨g, 7, none⟩) hg _
/-- What a store into the result keeps. -/
def KG (w0 : World) (g : Nat) (b w : World) : Prop := (∀ o, b.heap[g]? = some o → w.heap[g]? = some o) ∧ (Below w0.heap.size w0 b → Below w0.heap.size w0 w)
theorem kG (w0 : World) (g : Nat) : Keep (KG w0 g) := ⟨fun h => ⟨fun _ ho => blk_below ho h, fun hb => bstep hb h⟩, fun h k => ⟨fun _ ho => k.1 _ (h.1 _ ho), fun hb => k.2 (h.2 hb)⟩⟩
theorem run_arr (W : World) (g c : Nat) : (Instr.arrayAt 28 (.slice (some ⟨g, 0, none⟩) 3 c)).run Tryz.prog W = .ok (.pointer (some ⟨g, 0, none⟩)) W := by
  simp [Instr.arrayAt, run_underlying Tryz.underlying28]
theorem cut_c (l : Bs) (hl : l.length ≤ 1048576) (w : World) (ht : Txt w) : Calls Tryz.prog 72 #[.string (bS l), .string (bS [120])] w (Ret w (.tuple #[.string (bS (Go.Lib.cut l [120]).1), .string (bS (Go.Lib.cut l [120]).2.1), .bool (Go.Lib.cut l [120]).2.2])) := by
  obtain ⟨m, hm⟩ := ht.mx
  refine (Tryz.strings_Cut (bS l) (bS [120]) m w (by rw [bS_size]; omega) hm).mono ?_
  rintro e w' ⟨rfl, k, rfl⟩
  rw [bS_toList, bS_toList]
  exact ⟨rfl, bdrewN (Below.refl _ _) k⟩
set_option maxHeartbeats 4000000 in
theorem readBook_c (l : Bs) (hl : l.length ≤ 1048576) (w : World) (ht : Txt w) : Calls Tryz.prog 50 #[.string (bS l)] w (Ret w (.tuple #[(rbV l).val, .bool (bkK l)])) := by
  have hb0 : Below w.heap.size w (w.alloc (.cells #[.int .i16 0, .int .u8 0, .int .u8 0, .int .u8 0, .int .i16 0, .int .i16 0, .int .i16 0, .int .i16 0] 30)) := balloc (Below.refl _ _) _
  have hbx := blk_new w (.cells #[.int .i16 0, .int .u8 0, .int .u8 0, .int .u8 0, .int .i16 0, .int .i16 0, .int .i16 0, .int .i16 0] 30)
  have HS := Aside0.mk (fun W h => split_c 32 l hl W h)
  have HML := Aside0.mk (fun x hx => Nat.le_trans (splitL_mem 32 l x hx) hl)
  have HT := Aside0.mk (ht.below hb0)
  have HT0 := Aside0.mk ht
  clear ht
  by_cases hn : (splitL 32 l).length = 5
  · obtain ⟨a0, a1, a2, a3, a4, hws⟩ := five hn
    clear hn
    by_cases h3 : a1.length = 3
    · obtain ⟨x, y, z, rfl⟩ := three h3
      have HR := Aside0.mk (show rbV l = bkOf a0 a2 a3 a4 x y z ∧ bkK l = (vBook (bkOf a0 a2 a3 a4 x y z) && (bkT (bkOf a0 a2 a3 a4 x y z) == l)) from ⟨rb_five hws, rd_k hws⟩)
      rw [hws] at HS HML
      clear hws h3
      have HD := Aside0.mk (fun (a : Bs) (h : a.length ≤ 1048576) (W : World) (hw : Txt W) => short_c a h W hw)
      have l0 := HML.out a0 (by simp)
      have l2 := HML.out a2 (by simp)
      have l3 := HML.out a3 (by simp)
      have l4 := HML.out a4 (by simp)
      have HU := Aside0.mk (fun W h => cut_c a3 l3 W h)
      have hcl := cut_len1 120 a3
      generalize hcu : Go.Lib.cut a3 [120] = cu at HU hcl
      obtain ⟨p, q, ok⟩ := cu
      simp only at HU hcl
      have lp : p.length ≤ 1048576 := by have := hcl.1; omega
      have lq : q.length ≤ 1048576 := by have := hcl.2; omega
      have HB := Aside0.mk (show bkOf a0 a2 a3 a4 x y z = ⟨shN a0, x.toNat, y.toNat, z.toNat, shN a2, shN p, shN q, shN a4⟩ by unfold bkOf; rw [hcu])
      have HCV := Aside0.mk (fun W => Go.Lib.run_convert_string_bytes (P := Tryz.prog) W 9 22 5 (bS [x, y, z]) Tryz.underlying9 Tryz.underlying22 Tryz.underlying5)
      have hAA := run_arr
      have e5 : (((([a0, [x, y, z], a2, a3, a4] : List Bs).length : Nat) : Int) != 5) = false := rfl
      have e3 : ((((bS [x, y, z]).size : Nat) : Int) != 3) = false := rfl
      clear hcl hcu
      rw [HB.out] at HR
      go_enter Tryz.func50, Tryz.ntmps50
      go_wp2_with fail
      generalize World.alloc w _ = W1 at hbx hb0 HT ⊢
      refine (HS.out _ HT.out).mono ?_; rintro _ w1 ⟨_, rfl, hb1, A1, c1, rfl, hc1, hC1⟩
      have HB1 := Aside0.mk (bstep hb0 hb1)
      have HX1 := Aside0.mk (blk_below hbx hb1)
      have HT1 := Aside0.mk (HT.out.below hb1)
      obtain ⟨ad, rfl, d0, d1, d2, d3, d4⟩ := at5 hC1
      clear hb1 hC1 hc1 hbx HT hb0 HS
      go_wp2_with fail
      refine (HU.out _ HT1.out).mono ?_; rintro _ w2 ⟨rfl, hb2⟩
      have HB2 := Aside0.mk (bstep HB1.out hb2)
      have HX2 := Aside0.mk (blk_below HX1.out hb2)
      have HT2 := Aside0.mk (HT1.out.below hb2)
      have e0 := pw_cell_below hb2 d0
      have e1 := pw_cell_below hb2 d1
      have e2 := pw_cell_below hb2 d2
      have e4 := pw_cell_below hb2 d4
      clear d0 d1 d2 d3 d4 HU
      go_wp2_with fail
      have hbd : Below w2.heap.size w2 w2.drew := bdrew (Below.refl _ _)
      have HB3 := Aside0.mk (bstep HB2.out hbd)
      have HX3 := Aside0.mk (blk_below HX2.out hbd)
      have HT3 := Aside0.mk (HT2.out.below hbd)
      have d0 := pw_cell_below hbd e0
      have d1 := pw_cell_below hbd e1
      have d2 := pw_cell_below hbd e2
      have d4 := pw_cell_below hbd e4
      clear hb2 e0 e1 e2 e4 HB1 HB2 HX1 HX2 HT1 HT2
      refine region_HO (G := Ov) 24 (by kernel_rfl) (by kernel_rfl) ?_
      generalize World.drew w2 = wb at HB3 HX3 HT3 d0 d1 d2 d4 ⊢
      clear hbd
      refine HO_take Keep.ov (i := 0) (v := ?_) rfl (by kernel_rfl) (by kernel_rfl) (by kernel_rfl) (by decide) (fun _ _ _ h => h) (fun b' hb' => Or.inl ⟨by kernel_rfl, fun W hW => ?_⟩) ?_
      rotate_left
      · have hW' := hb'.step hW
        go_simp
        with_reducible rfl
      refine HO_take Keep.ov (i := 1) (v := ?_) rfl (by kernel_rfl) (by kernel_rfl) (by kernel_rfl) (by decide) (fun _ _ _ h => h) (fun b' hb' => Or.inl ⟨by kernel_rfl, fun W hW => ?_⟩) ?_
      rotate_left
      · have hW' := hb'.step hW
        go_simp
        with_reducible rfl
      refine HO_take Keep.ov (i := 2) (v := ?_) rfl (by kernel_rfl) (by kernel_rfl) (by kernel_rfl) (by decide) (fun _ _ _ h => h) (fun b' hb' => Or.inl ⟨by kernel_rfl, fun W hW => ?_⟩) ?_
      rotate_left
      · have hW' := hb'.step hW
        have q_0 := pw_cell_below hW' d0
        go_simp
        with_reducible rfl
      refine HO_take Keep.ov (i := 3) (v := .int .i16 (shN a0)) rfl (by kernel_rfl) (by kernel_rfl) (by kernel_rfl) (by decide) (fun _ _ _ h => h) (fun b' hb' => Or.inl ⟨by kernel_rfl, fun W hW => ?_⟩) ?_
      · have hW' := hb'.step hW
        go_simp
        exact (HD.out a0 l0 W (HT3.out.below hW')).mono (fun _ _ h => ⟨h.1, hW.step h.2⟩)
      refine HO_take Keep.ov (i := 4) (v := ?_) rfl (by kernel_rfl) (by kernel_rfl) (by kernel_rfl) (by decide) (fun _ _ _ h => h) (fun b' hb' => Or.inl ⟨by kernel_rfl, fun W hW => ?_⟩) ?_
      rotate_left
      · have hW' := hb'.step hW
        go_simp
        with_reducible rfl
      refine HO_take Keep.ov (i := 5) (v := ?_) rfl (by kernel_rfl) (by kernel_rfl) (by kernel_rfl) (by decide) (fun _ _ _ h => h) (fun b' hb' => Or.inl ⟨by kernel_rfl, fun W hW => ?_⟩) ?_
      rotate_left
      · have hW' := hb'.step hW
        go_simp
        with_reducible rfl
      refine HO_take Keep.ov (i := 6) (v := ?_) rfl (by kernel_rfl) (by kernel_rfl) (by kernel_rfl) (by decide) (fun _ _ _ h => h) (fun b' hb' => Or.inl ⟨by kernel_rfl, fun W hW => ?_⟩) ?_
      rotate_left
      · have hW' := hb'.step hW
        have q_0 := pw_cell_below hW' d1
        go_simp
        with_reducible rfl
      refine HO_take Keep.ov (i := 10) (v := ?_) rfl (by kernel_rfl) (by kernel_rfl) (by kernel_rfl) (by decide) (fun _ _ _ h => h) (fun b' hb' => Or.inl ⟨by kernel_rfl, fun W hW => ?_⟩) ?_
      rotate_left
      · have hW' := hb'.step hW
        go_simp
        with_reducible rfl
      refine HO_take Keep.ov (i := 11) (v := ?_) rfl (by kernel_rfl) (by kernel_rfl) (by kernel_rfl) (by decide) (fun _ _ _ h => h) (fun b' hb' => Or.inl ⟨by kernel_rfl, fun W hW => ?_⟩) ?_
      rotate_left
      · have hW' := hb'.step hW
        go_simp
        with_reducible rfl
      refine HO_take Keep.ov (i := 12) (v := ?_) rfl (by kernel_rfl) (by kernel_rfl) (by kernel_rfl) (by decide) (fun _ _ _ h => h) (fun b' hb' => Or.inl ⟨by kernel_rfl, fun W hW => ?_⟩) ?_
      rotate_left
      · have hW' := hb'.step hW
        have q_0 := pw_cell_below hW' d2
        go_simp
        with_reducible rfl
      refine HO_take Keep.ov (i := 13) (v := .int .i16 (shN a2)) rfl (by kernel_rfl) (by kernel_rfl) (by kernel_rfl) (by decide) (fun _ _ _ h => h) (fun b' hb' => Or.inl ⟨by kernel_rfl, fun W hW => ?_⟩) ?_
      · have hW' := hb'.step hW
        go_simp
        exact (HD.out a2 l2 W (HT3.out.below hW')).mono (fun _ _ h => ⟨h.1, hW.step h.2⟩)
      refine HO_take Keep.ov (i := 14) (v := ?_) rfl (by kernel_rfl) (by kernel_rfl) (by kernel_rfl) (by decide) (fun _ _ _ h => h) (fun b' hb' => Or.inl ⟨by kernel_rfl, fun W hW => ?_⟩) ?_
      rotate_left
      · have hW' := hb'.step hW
        go_simp
        with_reducible rfl
      refine HO_take Keep.ov (i := 15) (v := .int .i16 (shN p)) rfl (by kernel_rfl) (by kernel_rfl) (by kernel_rfl) (by decide) (fun _ _ _ h => h) (fun b' hb' => Or.inl ⟨by kernel_rfl, fun W hW => ?_⟩) ?_
      · have hW' := hb'.step hW
        go_simp
        exact (HD.out p lp W (HT3.out.below hW')).mono (fun _ _ h => ⟨h.1, hW.step h.2⟩)
      refine HO_take Keep.ov (i := 16) (v := ?_) rfl (by kernel_rfl) (by kernel_rfl) (by kernel_rfl) (by decide) (fun _ _ _ h => h) (fun b' hb' => Or.inl ⟨by kernel_rfl, fun W hW => ?_⟩) ?_
      rotate_left
      · have hW' := hb'.step hW
        go_simp
        with_reducible rfl
      refine HO_take Keep.ov (i := 17) (v := .int .i16 (shN q)) rfl (by kernel_rfl) (by kernel_rfl) (by kernel_rfl) (by decide) (fun _ _ _ h => h) (fun b' hb' => Or.inl ⟨by kernel_rfl, fun W hW => ?_⟩) ?_
      · have hW' := hb'.step hW
        go_simp
        exact (HD.out q lq W (HT3.out.below hW')).mono (fun _ _ h => ⟨h.1, hW.step h.2⟩)
      refine HO_take Keep.ov (i := 18) (v := ?_) rfl (by kernel_rfl) (by kernel_rfl) (by kernel_rfl) (by decide) (fun _ _ _ h => h) (fun b' hb' => Or.inl ⟨by kernel_rfl, fun W hW => ?_⟩) ?_
      rotate_left
      · have hW' := hb'.step hW
        go_simp
        with_reducible rfl
      refine HO_take Keep.ov (i := 19) (v := ?_) rfl (by kernel_rfl) (by kernel_rfl) (by kernel_rfl) (by decide) (fun _ _ _ h => h) (fun b' hb' => Or.inl ⟨by kernel_rfl, fun W hW => ?_⟩) ?_
      rotate_left
      · have hW' := hb'.step hW
        go_simp
        with_reducible rfl
      refine HO_take Keep.ov (i := 20) (v := ?_) rfl (by kernel_rfl) (by kernel_rfl) (by kernel_rfl) (by decide) (fun _ _ _ h => h) (fun b' hb' => Or.inl ⟨by kernel_rfl, fun W hW => ?_⟩) ?_
      rotate_left
      · have hW' := hb'.step hW
        have q_0 := pw_cell_below hW' d4
        go_simp
        with_reducible rfl
      refine HO_take Keep.ov (i := 21) (v := .int .i16 (shN a4)) rfl (by kernel_rfl) (by kernel_rfl) (by kernel_rfl) (by decide) (fun _ _ _ h => h) (fun b' hb' => Or.inl ⟨by kernel_rfl, fun W hW => ?_⟩) ?_
      · have hW' := hb'.step hW
        go_simp
        exact (HD.out a4 l4 W (HT3.out.below hW')).mono (fun _ _ h => ⟨h.1, hW.step h.2⟩)
      refine HO_step2 (i := 7) (j := 23) rfl rfl (by kernel_rfl) (by decide) (by decide) (by kernel_rfl) (by kernel_rfl) (fun W hW K hK => ?_) (fun W hW K hK => ?_)
      · have ocv := HCV.out W
        rw [show (bS [x, y, z]).size = 3 from rfl] at ocv
        go_simp
        refine hK _ _ (Go.Lib.bytesWorld_below _ _ _) ?_
        clear hK K
        have m0 : (Go.Lib.bytesWorld W 5 (bS [x, y, z])).cell? ⟨W.heap.size, 0, none⟩ = some (.int .u8 (x.toNat : Int)) := Go.Lib.bytesWorld_cell W 5 (bS [x, y, z]) 0 (by rw [show (bS [x, y, z]).size = 3 from rfl]; omega)
        have m1 : (Go.Lib.bytesWorld W 5 (bS [x, y, z])).cell? ⟨W.heap.size, 1, none⟩ = some (.int .u8 (y.toNat : Int)) := Go.Lib.bytesWorld_cell W 5 (bS [x, y, z]) 1 (by rw [show (bS [x, y, z]).size = 3 from rfl]; omega)
        have m2 : (Go.Lib.bytesWorld W 5 (bS [x, y, z])).cell? ⟨W.heap.size, 2, none⟩ = some (.int .u8 (z.toNat : Int)) := Go.Lib.bytesWorld_cell W 5 (bS [x, y, z]) 2 (by rw [show (bS [x, y, z]).size = 3 from rfl]; omega)
        have HW := Aside0.mk (Ov.step hW (Go.Lib.bytesWorld_below W 5 (bS [x, y, z])))
        clear ocv hW
        generalize Go.Lib.bytesWorld W 5 (bS [x, y, z]) = w7 at m0 m1 m2 HW ⊢
        generalize W.heap.size = g7 at m0 m1 m2 ⊢
        refine HO_take Keep.ov (i := 8) (v := ?_) rfl (by kernel_rfl) (by kernel_rfl) (by kernel_rfl) (by decide) (fun _ _ _ h => h) (fun b' hb' => Or.inl ⟨by kernel_rfl, fun W hW => ?_⟩) ?_
        rotate_left
        · have hW' := hb'.step hW
          go_simp
          with_reducible rfl
        refine HO_take Keep.ov (i := 9) (v := ?_) rfl (by kernel_rfl) (by kernel_rfl) (by kernel_rfl) (by decide) (fun _ _ _ h => h) (fun b' hb' => Or.inl ⟨by kernel_rfl, fun W hW => ?_⟩) ?_
        rotate_left
        · have hW' := hb'.step hW
          have q_0 := pw_cell_below hW' m0
          have q_1 := pw_cell_below hW' m1
          have q_2 := pw_cell_below hW' m2
          go_simp
          with_reducible rfl
        refine HO_take Keep.ov (i := 22) (v := ?_) rfl (by kernel_rfl) (by kernel_rfl) (by kernel_rfl) (by decide) (fun _ _ _ h => h) (fun b' hb' => Or.inl ⟨by kernel_rfl, fun W hW => ?_⟩) ?_
        rotate_left
        · have hW' := hb'.step hW
          go_simp
          with_reducible rfl
        refine HO_step (i := 23) rfl (by kernel_rfl) (by decide) (by kernel_rfl) (fun W2 hW2 K hK => ?_)
        go_simp
        refine hK _ _ (balloc (Below.refl _ _) _) ?_
        clear hK K
        have HY := Aside0.mk (blk_new W2 (.cells #[.int .i16 0, .int .u8 0, .int .u8 0, .int .u8 0, .int .i16 0, .int .i16 0, .int .i16 0, .int .i16 0] 30))
        have HW2 := Aside0.mk (HW.out.step (hW2.step (balloc (Below.refl W2.heap.size W2) (.cells #[.int .i16 0, .int .u8 0, .int .u8 0, .int .u8 0, .int .i16 0, .int .i16 0, .int .i16 0, .int .i16 0] 30))))
        have hgt := Aside0.mk (show w.heap.size < W2.heap.size by have := blk_lt HX3.out; have := HW.out.size; have := hW2.size; omega)
        clear hW2 m0 m1 m2 HW
        generalize World.alloc W2 _ = W3 at HY HW2 ⊢
        generalize W2.heap.size = g8 at HY hgt ⊢
        refine HO_end (by kernel_rfl) (fun W hW => ?_)
        have hx := blk_below (blk_below HX3.out HW2.out) hW
        have hy := blk_below HY.out hW
        have HB4 := Aside0.mk (bstep HB3.out (HW2.out.step hW))
        have HX4 := Aside0.mk hx
        clear hW HY HW2 HX3 HB3 HT3 hx HCV hAA d0 d1 d2 d4
        have c0 := blk_cell hy 0
        have f0 := blk_frozen hy 0
        have c1 := blk_cell hy 1
        have f1 := blk_frozen hy 1
        have c2 := blk_cell hy 2
        have f2 := blk_frozen hy 2
        have c3 := blk_cell hy 3
        have f3 := blk_frozen hy 3
        have c4 := blk_cell hy 4
        have f4 := blk_frozen hy 4
        have c5 := blk_cell hy 5
        have f5 := blk_frozen hy 5
        have c6 := blk_cell hy 6
        have f6 := blk_frozen hy 6
        have c7 := blk_cell hy 7
        have f7 := blk_frozen hy 7
        simp only [List.getElem?_toArray, List.getElem?_cons_zero, List.getElem?_cons_succ] at c0 c1 c2 c3 c4 c5 c6 c7
        go_wp2_with fail
        have hy5 := put8_blk ⟨shN a0, x.toNat, y.toNat, z.toNat, shN a2, shN p, shN q, shN a4⟩ hy
        have HX5 := Aside0.mk (put8_far ⟨shN a0, x.toNat, y.toNat, z.toNat, shN a2, shN p, shN q, shN a4⟩ HX4.out (Nat.ne_of_lt hgt.out))
        have HB5 := Aside0.mk (put8_below ⟨shN a0, x.toNat, y.toNat, z.toNat, shN a2, shN p, shN q, shN a4⟩ HB4.out (Nat.le_of_lt hgt.out))
        clear HB4 HX4 hy c0 c1 c2 c3 c4 c5 c6 c7 f0 f1 f2 f3 f4 f5 f6 f7
        change Code.wp _ _ _ _ (put8 W g8 ⟨shN a0, x.toNat, y.toNat, z.toNat, shN a2, shN p, shN q, shN a4⟩)
        generalize (⟨shN a0, x.toNat, y.toNat, z.toNat, shN a2, shN p, shN q, shN a4⟩ : Bk) = b at HR hy5 HX5 HB5 ⊢
        have hbd : Below (put8 W g8 b).heap.size (put8 W g8 b) (put8 W g8 b).drew := bdrew (Below.refl _ _)
        have hy5 := blk_below hy5 hbd
        have HX5 := Aside0.mk (blk_below HX5.out hbd)
        have HB5 := Aside0.mk (bstep HB5.out hbd)
        clear hbd
        have hKG := kG w g8
        have HVB := Aside0.mk (fun (p : World) => ValidBook_c b p)
        cases hv : vBook b
        · have HK := Aside0.mk (show bkK l = false by rw [HR.out.2, hv]; rfl)
          rw [hv] at HVB
          simp only [Bk.val] at HVB
          clear hv
          refine region_HO (G := KG w g8) 10 (by kernel_rfl) (by kernel_rfl) ?_
          generalize (put8 W g8 b).drew = W5 at hy5 HX5 HB5 ⊢
          refine HO_take hKG (i := 0) (v := ?_) rfl (by kernel_rfl) (by kernel_rfl) (by kernel_rfl) (by decide) (fun _ _ _ h => h) (fun b' hb' => Or.inl ⟨by kernel_rfl, fun W hW => ?_⟩) ?_
          rotate_left
          · have hyW := blk_below (hb'.1 _ hy5) hW
            have HBW := Aside0.mk (bstep (hb'.2 HB5.out) hW)
            have q0 := blk_cell hyW 0
            have q1 := blk_cell hyW 1
            have q2 := blk_cell hyW 2
            have q3 := blk_cell hyW 3
            have q4 := blk_cell hyW 4
            have q5 := blk_cell hyW 5
            have q6 := blk_cell hyW 6
            have q7 := blk_cell hyW 7
            simp only [List.getElem?_toArray, List.getElem?_cons_zero, List.getElem?_cons_succ] at q0 q1 q2 q3 q4 q5 q6 q7
            go_simp
            with_reducible rfl
          refine HO_take hKG (i := 1) (v := ?_) rfl (by kernel_rfl) (by kernel_rfl) (by kernel_rfl) (by decide) (fun _ _ _ h => h) (fun b' hb' => Or.inl ⟨by kernel_rfl, fun W hW => ?_⟩) ?_
          rotate_left
          · have hyW := blk_below (hb'.1 _ hy5) hW
            have HBW := Aside0.mk (bstep (hb'.2 HB5.out) hW)
            have q0 := blk_cell hyW 0
            have q1 := blk_cell hyW 1
            have q2 := blk_cell hyW 2
            have q3 := blk_cell hyW 3
            have q4 := blk_cell hyW 4
            have q5 := blk_cell hyW 5
            have q6 := blk_cell hyW 6
            have q7 := blk_cell hyW 7
            simp only [List.getElem?_toArray, List.getElem?_cons_zero, List.getElem?_cons_succ] at q0 q1 q2 q3 q4 q5 q6 q7
            go_simp
            with_reducible rfl
          refine HO_take hKG (i := 2) (v := .bool false) rfl (by kernel_rfl) (by kernel_rfl) (by kernel_rfl) (by decide) (fun _ _ _ h => h) (fun b' hb' => Or.inl ⟨by kernel_rfl, fun W hW => ?_⟩) ?_
          · have hyW := blk_below (hb'.1 _ hy5) hW
            have HBW := Aside0.mk (bstep (hb'.2 HB5.out) hW)
            have q0 := blk_cell hyW 0
            have q1 := blk_cell hyW 1
            have q2 := blk_cell hyW 2
            have q3 := blk_cell hyW 3
            have q4 := blk_cell hyW 4
            have q5 := blk_cell hyW 5
            have q6 := blk_cell hyW 6
            have q7 := blk_cell hyW 7
            simp only [List.getElem?_toArray, List.getElem?_cons_zero, List.getElem?_cons_succ] at q0 q1 q2 q3 q4 q5 q6 q7
            go_simp
            exact (HVB.out W).mono (fun _ _ h => ⟨h.1, hW.step h.2⟩)
          refine HO_take hKG (i := 3) (v := ?_) rfl (by kernel_rfl) (by kernel_rfl) (by kernel_rfl) (by decide) (fun _ _ _ h => h) (fun b' hb' => Or.inl ⟨by kernel_rfl, fun W hW => ?_⟩) ?_
          rotate_left
          · have hyW := blk_below (hb'.1 _ hy5) hW
            have HBW := Aside0.mk (bstep (hb'.2 HB5.out) hW)
            have q0 := blk_cell hyW 0
            have q1 := blk_cell hyW 1
            have q2 := blk_cell hyW 2
            have q3 := blk_cell hyW 3
            have q4 := blk_cell hyW 4
            have q5 := blk_cell hyW 5
            have q6 := blk_cell hyW 6
            have q7 := blk_cell hyW 7
            simp only [List.getElem?_toArray, List.getElem?_cons_zero, List.getElem?_cons_succ] at q0 q1 q2 q3 q4 q5 q6 q7
            go_simp
            with_reducible rfl
          refine HO_take hKG (i := 4) (v := undef) rfl (by kernel_rfl) (by kernel_rfl) (by kernel_rfl) (by decide) (fun _ _ _ h => h) (fun b' hb' => Or.inr ⟨by kernel_rfl, rfl⟩) ?_
          refine HO_take hKG (i := 5) (v := undef) rfl (by kernel_rfl) (by kernel_rfl) (by kernel_rfl) (by decide) (fun _ _ _ h => h) (fun b' hb' => Or.inr ⟨by kernel_rfl, rfl⟩) ?_
          refine HO_take hKG (i := 6) (v := undef) rfl (by kernel_rfl) (by kernel_rfl) (by kernel_rfl) (by decide) (fun _ _ _ h => h) (fun b' hb' => Or.inr ⟨by kernel_rfl, rfl⟩) ?_
          refine HO_take hKG (i := 7) (v := undef) rfl (by kernel_rfl) (by kernel_rfl) (by kernel_rfl) (by decide) (fun _ _ _ h => h) (fun b' hb' => Or.inr ⟨by kernel_rfl, rfl⟩) ?_
          refine HO_take hKG (i := 8) (v := ?_) rfl (by kernel_rfl) (by kernel_rfl) (by kernel_rfl) (by decide) (fun _ _ _ h => h) (fun b' hb' => Or.inl ⟨by kernel_rfl, fun W hW => ?_⟩) ?_
          rotate_left
          · have hyW := blk_below (hb'.1 _ hy5) hW
            have HBW := Aside0.mk (bstep (hb'.2 HB5.out) hW)
            have q0 := blk_cell hyW 0
            have q1 := blk_cell hyW 1
            have q2 := blk_cell hyW 2
            have q3 := blk_cell hyW 3
            have q4 := blk_cell hyW 4
            have q5 := blk_cell hyW 5
            have q6 := blk_cell hyW 6
            have q7 := blk_cell hyW 7
            simp only [List.getElem?_toArray, List.getElem?_cons_zero, List.getElem?_cons_succ] at q0 q1 q2 q3 q4 q5 q6 q7
            go_simp
            with_reducible rfl
          refine HO_step (i := 9) rfl (by kernel_rfl) (by decide) (by kernel_rfl) (fun W hW K hK => ?_)
          have hx6 := blk_below HX5.out hW
          have hy6 := blk_below hy5 hW
          have HB6 := Aside0.mk (bstep HB5.out hW)
          have c0 := blk_cell hx6 0
          have f0 := blk_frozen hx6 0
          have c1 := blk_cell hx6 1
          have f1 := blk_frozen hx6 1
          have c2 := blk_cell hx6 2
          have f2 := blk_frozen hx6 2
          have c3 := blk_cell hx6 3
          have f3 := blk_frozen hx6 3
          have c4 := blk_cell hx6 4
          have f4 := blk_frozen hx6 4
          have c5 := blk_cell hx6 5
          have f5 := blk_frozen hx6 5
          have c6 := blk_cell hx6 6
          have f6 := blk_frozen hx6 6
          have c7 := blk_cell hx6 7
          have f7 := blk_frozen hx6 7
          simp only [List.getElem?_toArray, List.getElem?_cons_zero, List.getElem?_cons_succ] at c0 c1 c2 c3 c4 c5 c6 c7
          go_simp
          refine hK _ (put8 W w.heap.size b) ⟨fun o ho => ?_, fun hb => put8_below b hb (Nat.le_refl _)⟩ ?_
          · rw [hy6] at ho
            rw [← Option.some.inj ho]
            exact put8_far b hy6 (Nat.ne_of_gt hgt.out)
          clear hK K
          have hz6 := put8_blk b hx6
          have HB7 := Aside0.mk (put8_below b HB6.out (Nat.le_refl _))
          clear HB6 hx6 hy6 c0 c1 c2 c3 c4 c5 c6 c7 f0 f1 f2 f3 f4 f5 f6 f7 hW
          generalize put8 W w.heap.size b = W6 at hz6 HB7 ⊢
          refine HO_end (by kernel_rfl) (fun W7 hW7 => ?_)
          have hx7 := blk_below hz6 hW7
          have HB8 := Aside0.mk (bstep HB7.out hW7)
          have c0 := blk_cell hx7 0
          have f0 := blk_frozen hx7 0
          have c1 := blk_cell hx7 1
          have f1 := blk_frozen hx7 1
          have c2 := blk_cell hx7 2
          have f2 := blk_frozen hx7 2
          have c3 := blk_cell hx7 3
          have f3 := blk_frozen hx7 3
          have c4 := blk_cell hx7 4
          have f4 := blk_frozen hx7 4
          have c5 := blk_cell hx7 5
          have f5 := blk_frozen hx7 5
          have c6 := blk_cell hx7 6
          have f6 := blk_frozen hx7 6
          have c7 := blk_cell hx7 7
          have f7 := blk_frozen hx7 7
          simp only [List.getElem?_toArray, List.getElem?_cons_zero, List.getElem?_cons_succ] at c0 c1 c2 c3 c4 c5 c6 c7
          go_wp2
          exact bodyPost_ret (v := .tuple #[b.val, .bool (false)]) (by simp [results, Tryz.results50, go_sem, c0, c1, c2, c3, c4, c5, c6, c7, f0, f1, f2, f3, f4, f5, f6, f7, Bk.val]) rfl ⟨ret_bk HR.out.1.symm HK.out.symm, HB8.out⟩
        · have HK := Aside0.mk (show bkK l = ((bS (bkT b)).toList == (bS l).toList) by rw [HR.out.2, hv, bS_list, bS_list]; rfl)
          have HVT := Aside0.mk (fun (p : World) (hp : Below w.heap.size w p) => bookText_c b (vB1 hv) p (HT0.out.tab.below hp))
          rw [hv] at HVB
          simp only [Bk.val] at HVB HVT
          clear hv
          refine region_HO (G := KG w g8) 10 (by kernel_rfl) (by kernel_rfl) ?_
          generalize (put8 W g8 b).drew = W5 at hy5 HX5 HB5 ⊢
          refine HO_take hKG (i := 0) (v := ?_) rfl (by kernel_rfl) (by kernel_rfl) (by kernel_rfl) (by decide) (fun _ _ _ h => h) (fun b' hb' => Or.inl ⟨by kernel_rfl, fun W hW => ?_⟩) ?_
          rotate_left
          · have hyW := blk_below (hb'.1 _ hy5) hW
            have HBW := Aside0.mk (bstep (hb'.2 HB5.out) hW)
            have q0 := blk_cell hyW 0
            have q1 := blk_cell hyW 1
            have q2 := blk_cell hyW 2
            have q3 := blk_cell hyW 3
            have q4 := blk_cell hyW 4
            have q5 := blk_cell hyW 5
            have q6 := blk_cell hyW 6
            have q7 := blk_cell hyW 7
            simp only [List.getElem?_toArray, List.getElem?_cons_zero, List.getElem?_cons_succ] at q0 q1 q2 q3 q4 q5 q6 q7
            go_simp
            with_reducible rfl
          refine HO_take hKG (i := 1) (v := ?_) rfl (by kernel_rfl) (by kernel_rfl) (by kernel_rfl) (by decide) (fun _ _ _ h => h) (fun b' hb' => Or.inl ⟨by kernel_rfl, fun W hW => ?_⟩) ?_
          rotate_left
          · have hyW := blk_below (hb'.1 _ hy5) hW
            have HBW := Aside0.mk (bstep (hb'.2 HB5.out) hW)
            have q0 := blk_cell hyW 0
            have q1 := blk_cell hyW 1
            have q2 := blk_cell hyW 2
            have q3 := blk_cell hyW 3
            have q4 := blk_cell hyW 4
            have q5 := blk_cell hyW 5
            have q6 := blk_cell hyW 6
            have q7 := blk_cell hyW 7
            simp only [List.getElem?_toArray, List.getElem?_cons_zero, List.getElem?_cons_succ] at q0 q1 q2 q3 q4 q5 q6 q7
            go_simp
            with_reducible rfl
          refine HO_take hKG (i := 2) (v := .bool true) rfl (by kernel_rfl) (by kernel_rfl) (by kernel_rfl) (by decide) (fun _ _ _ h => h) (fun b' hb' => Or.inl ⟨by kernel_rfl, fun W hW => ?_⟩) ?_
          · have hyW := blk_below (hb'.1 _ hy5) hW
            have HBW := Aside0.mk (bstep (hb'.2 HB5.out) hW)
            have q0 := blk_cell hyW 0
            have q1 := blk_cell hyW 1
            have q2 := blk_cell hyW 2
            have q3 := blk_cell hyW 3
            have q4 := blk_cell hyW 4
            have q5 := blk_cell hyW 5
            have q6 := blk_cell hyW 6
            have q7 := blk_cell hyW 7
            simp only [List.getElem?_toArray, List.getElem?_cons_zero, List.getElem?_cons_succ] at q0 q1 q2 q3 q4 q5 q6 q7
            go_simp
            exact (HVB.out W).mono (fun _ _ h => ⟨h.1, hW.step h.2⟩)
          refine HO_take hKG (i := 3) (v := ?_) rfl (by kernel_rfl) (by kernel_rfl) (by kernel_rfl) (by decide) (fun _ _ _ h => h) (fun b' hb' => Or.inl ⟨by kernel_rfl, fun W hW => ?_⟩) ?_
          rotate_left
          · have hyW := blk_below (hb'.1 _ hy5) hW
            have HBW := Aside0.mk (bstep (hb'.2 HB5.out) hW)
            have q0 := blk_cell hyW 0
            have q1 := blk_cell hyW 1
            have q2 := blk_cell hyW 2
            have q3 := blk_cell hyW 3
            have q4 := blk_cell hyW 4
            have q5 := blk_cell hyW 5
            have q6 := blk_cell hyW 6
            have q7 := blk_cell hyW 7
            simp only [List.getElem?_toArray, List.getElem?_cons_zero, List.getElem?_cons_succ] at q0 q1 q2 q3 q4 q5 q6 q7
            go_simp
            with_reducible rfl
          refine HO_take hKG (i := 4) (v := ?_) rfl (by kernel_rfl) (by kernel_rfl) (by kernel_rfl) (by decide) (fun _ _ _ h => h) (fun b' hb' => Or.inl ⟨by kernel_rfl, fun W hW => ?_⟩) ?_
          rotate_left
          · have hyW := blk_below (hb'.1 _ hy5) hW
            have HBW := Aside0.mk (bstep (hb'.2 HB5.out) hW)
            have q0 := blk_cell hyW 0
            have q1 := blk_cell hyW 1
            have q2 := blk_cell hyW 2
            have q3 := blk_cell hyW 3
            have q4 := blk_cell hyW 4
            have q5 := blk_cell hyW 5
            have q6 := blk_cell hyW 6
            have q7 := blk_cell hyW 7
            simp only [List.getElem?_toArray, List.getElem?_cons_zero, List.getElem?_cons_succ] at q0 q1 q2 q3 q4 q5 q6 q7
            go_simp
            with_reducible rfl
          refine HO_take hKG (i := 5) (v := .string (bS (bkT b))) rfl (by kernel_rfl) (by kernel_rfl) (by kernel_rfl) (by decide) (fun _ _ _ h => h) (fun b' hb' => Or.inl ⟨by kernel_rfl, fun W hW => ?_⟩) ?_
          · have hyW := blk_below (hb'.1 _ hy5) hW
            have HBW := Aside0.mk (bstep (hb'.2 HB5.out) hW)
            have q0 := blk_cell hyW 0
            have q1 := blk_cell hyW 1
            have q2 := blk_cell hyW 2
            have q3 := blk_cell hyW 3
            have q4 := blk_cell hyW 4
            have q5 := blk_cell hyW 5
            have q6 := blk_cell hyW 6
            have q7 := blk_cell hyW 7
            simp only [List.getElem?_toArray, List.getElem?_cons_zero, List.getElem?_cons_succ] at q0 q1 q2 q3 q4 q5 q6 q7
            go_simp
            exact (HVT.out W HBW.out).mono (fun _ _ h => ⟨h.1, hW.step h.2⟩)
          refine HO_take hKG (i := 6) (v := ?_) rfl (by kernel_rfl) (by kernel_rfl) (by kernel_rfl) (by decide) (fun _ _ _ h => h) (fun b' hb' => Or.inl ⟨by kernel_rfl, fun W hW => ?_⟩) ?_
          rotate_left
          · have hyW := blk_below (hb'.1 _ hy5) hW
            have HBW := Aside0.mk (bstep (hb'.2 HB5.out) hW)
            have q0 := blk_cell hyW 0
            have q1 := blk_cell hyW 1
            have q2 := blk_cell hyW 2
            have q3 := blk_cell hyW 3
            have q4 := blk_cell hyW 4
            have q5 := blk_cell hyW 5
            have q6 := blk_cell hyW 6
            have q7 := blk_cell hyW 7
            simp only [List.getElem?_toArray, List.getElem?_cons_zero, List.getElem?_cons_succ] at q0 q1 q2 q3 q4 q5 q6 q7
            go_simp
            with_reducible rfl
          refine HO_take hKG (i := 7) (v := ?_) rfl (by kernel_rfl) (by kernel_rfl) (by kernel_rfl) (by decide) (fun _ _ _ h => h) (fun b' hb' => Or.inl ⟨by kernel_rfl, fun W hW => ?_⟩) ?_
          rotate_left
          · have hyW := blk_below (hb'.1 _ hy5) hW
            have HBW := Aside0.mk (bstep (hb'.2 HB5.out) hW)
            have q0 := blk_cell hyW 0
            have q1 := blk_cell hyW 1
            have q2 := blk_cell hyW 2
            have q3 := blk_cell hyW 3
            have q4 := blk_cell hyW 4
            have q5 := blk_cell hyW 5
            have q6 := blk_cell hyW 6
            have q7 := blk_cell hyW 7
            simp only [List.getElem?_toArray, List.getElem?_cons_zero, List.getElem?_cons_succ] at q0 q1 q2 q3 q4 q5 q6 q7
            go_simp
            with_reducible rfl
          refine HO_take hKG (i := 8) (v := ?_) rfl (by kernel_rfl) (by kernel_rfl) (by kernel_rfl) (by decide) (fun _ _ _ h => h) (fun b' hb' => Or.inl ⟨by kernel_rfl, fun W hW => ?_⟩) ?_
          rotate_left
          · have hyW := blk_below (hb'.1 _ hy5) hW
            have HBW := Aside0.mk (bstep (hb'.2 HB5.out) hW)
            have q0 := blk_cell hyW 0
            have q1 := blk_cell hyW 1
            have q2 := blk_cell hyW 2
            have q3 := blk_cell hyW 3
            have q4 := blk_cell hyW 4
            have q5 := blk_cell hyW 5
            have q6 := blk_cell hyW 6
            have q7 := blk_cell hyW 7
            simp only [List.getElem?_toArray, List.getElem?_cons_zero, List.getElem?_cons_succ] at q0 q1 q2 q3 q4 q5 q6 q7
            go_simp
            with_reducible rfl
          refine HO_step (i := 9) rfl (by kernel_rfl) (by decide) (by kernel_rfl) (fun W hW K hK => ?_)
          have hx6 := blk_below HX5.out hW
          have hy6 := blk_below hy5 hW
          have HB6 := Aside0.mk (bstep HB5.out hW)
          have c0 := blk_cell hx6 0
          have f0 := blk_frozen hx6 0
          have c1 := blk_cell hx6 1
          have f1 := blk_frozen hx6 1
          have c2 := blk_cell hx6 2
          have f2 := blk_frozen hx6 2
          have c3 := blk_cell hx6 3
          have f3 := blk_frozen hx6 3
          have c4 := blk_cell hx6 4
          have f4 := blk_frozen hx6 4
          have c5 := blk_cell hx6 5
          have f5 := blk_frozen hx6 5
          have c6 := blk_cell hx6 6
          have f6 := blk_frozen hx6 6
          have c7 := blk_cell hx6 7
          have f7 := blk_frozen hx6 7
          simp only [List.getElem?_toArray, List.getElem?_cons_zero, List.getElem?_cons_succ] at c0 c1 c2 c3 c4 c5 c6 c7
          go_simp
          refine hK _ (put8 W w.heap.size b) ⟨fun o ho => ?_, fun hb => put8_below b hb (Nat.le_refl _)⟩ ?_
          · rw [hy6] at ho
            rw [← Option.some.inj ho]
            exact put8_far b hy6 (Nat.ne_of_gt hgt.out)
          clear hK K
          have hz6 := put8_blk b hx6
          have HB7 := Aside0.mk (put8_below b HB6.out (Nat.le_refl _))
          clear HB6 hx6 hy6 c0 c1 c2 c3 c4 c5 c6 c7 f0 f1 f2 f3 f4 f5 f6 f7 hW
          generalize put8 W w.heap.size b = W6 at hz6 HB7 ⊢
          refine HO_end (by kernel_rfl) (fun W7 hW7 => ?_)
          have hx7 := blk_below hz6 hW7
          have HB8 := Aside0.mk (bstep HB7.out hW7)
          have c0 := blk_cell hx7 0
          have f0 := blk_frozen hx7 0
          have c1 := blk_cell hx7 1
          have f1 := blk_frozen hx7 1
          have c2 := blk_cell hx7 2
          have f2 := blk_frozen hx7 2
          have c3 := blk_cell hx7 3
          have f3 := blk_frozen hx7 3
          have c4 := blk_cell hx7 4
          have f4 := blk_frozen hx7 4
          have c5 := blk_cell hx7 5
          have f5 := blk_frozen hx7 5
          have c6 := blk_cell hx7 6
          have f6 := blk_frozen hx7 6
          have c7 := blk_cell hx7 7
          have f7 := blk_frozen hx7 7
          simp only [List.getElem?_toArray, List.getElem?_cons_zero, List.getElem?_cons_succ] at c0 c1 c2 c3 c4 c5 c6 c7
          go_wp2
          exact bodyPost_ret (v := .tuple #[b.val, .bool (((bS (bkT b)).toList == (bS l).toList))]) (by simp [results, Tryz.results50, go_sem, c0, c1, c2, c3, c4, c5, c6, c7, f0, f1, f2, f3, f4, f5, f6, f7, Bk.val]) rfl ⟨ret_bk HR.out.1.symm HK.out.symm, HB8.out⟩
      · go_simp
        refine hK _ _ (balloc (Below.refl _ _) _) ?_
        clear hK K
        have hy := blk_new W (.cells #[.int .i16 0, .int .u8 0, .int .u8 0, .int .u8 0, .int .i16 0, .int .i16 0, .int .i16 0, .int .i16 0] 30)
        have HW := Aside0.mk (hW.step (balloc (Below.refl W.heap.size W) (.cells #[.int .i16 0, .int .u8 0, .int .u8 0, .int .u8 0, .int .i16 0, .int .i16 0, .int .i16 0, .int .i16 0] 30)))
        have hgt := Aside0.mk (show w.heap.size < W.heap.size by have := blk_lt HX3.out; have := hW.size; omega)
        clear hW
        generalize World.alloc W _ = W3 at hy HW ⊢
        generalize W.heap.size = g8 at hy hgt ⊢
        refine HO_step (i := 7) rfl (by kernel_rfl) (by decide) (by kernel_rfl) (fun W hW K hK => ?_)
        have ocv := HCV.out W
        rw [show (bS [x, y, z]).size = 3 from rfl] at ocv
        go_simp
        refine hK _ _ (Go.Lib.bytesWorld_below _ _ _) ?_
        clear hK K
        have m0 : (Go.Lib.bytesWorld W 5 (bS [x, y, z])).cell? ⟨W.heap.size, 0, none⟩ = some (.int .u8 (x.toNat : Int)) := Go.Lib.bytesWorld_cell W 5 (bS [x, y, z]) 0 (by rw [show (bS [x, y, z]).size = 3 from rfl]; omega)
        have m1 : (Go.Lib.bytesWorld W 5 (bS [x, y, z])).cell? ⟨W.heap.size, 1, none⟩ = some (.int .u8 (y.toNat : Int)) := Go.Lib.bytesWorld_cell W 5 (bS [x, y, z]) 1 (by rw [show (bS [x, y, z]).size = 3 from rfl]; omega)
        have m2 : (Go.Lib.bytesWorld W 5 (bS [x, y, z])).cell? ⟨W.heap.size, 2, none⟩ = some (.int .u8 (z.toNat : Int)) := Go.Lib.bytesWorld_cell W 5 (bS [x, y, z]) 2 (by rw [show (bS [x, y, z]).size = 3 from rfl]; omega)
        have hW7 := Ov.step hW (Go.Lib.bytesWorld_below W 5 (bS [x, y, z]))
        have HY := Aside0.mk (blk_below hy hW7)
        have HW2 := Aside0.mk (HW.out.step hW7)
        clear ocv hW hW7 hy HW
        generalize Go.Lib.bytesWorld W 5 (bS [x, y, z]) = w7 at m0 m1 m2 HY HW2 ⊢
        generalize W.heap.size = g7 at m0 m1 m2 ⊢
        refine HO_take Keep.ov (i := 8) (v := ?_) rfl (by kernel_rfl) (by kernel_rfl) (by kernel_rfl) (by decide) (fun _ _ _ h => h) (fun b' hb' => Or.inl ⟨by kernel_rfl, fun W hW => ?_⟩) ?_
        rotate_left
        · have hW' := hb'.step hW
          go_simp
          with_reducible rfl
        refine HO_take Keep.ov (i := 9) (v := ?_) rfl (by kernel_rfl) (by kernel_rfl) (by kernel_rfl) (by decide) (fun _ _ _ h => h) (fun b' hb' => Or.inl ⟨by kernel_rfl, fun W hW => ?_⟩) ?_
        rotate_left
        · have hW' := hb'.step hW
          have q_0 := pw_cell_below hW' m0
          have q_1 := pw_cell_below hW' m1
          have q_2 := pw_cell_below hW' m2
          go_simp
          with_reducible rfl
        refine HO_take Keep.ov (i := 22) (v := ?_) rfl (by kernel_rfl) (by kernel_rfl) (by kernel_rfl) (by decide) (fun _ _ _ h => h) (fun b' hb' => Or.inl ⟨by kernel_rfl, fun W hW => ?_⟩) ?_
        rotate_left
        · have hW' := hb'.step hW
          go_simp
          with_reducible rfl
        clear m0 m1 m2
        refine HO_end (by kernel_rfl) (fun W hW => ?_)
        have hx := blk_below (blk_below HX3.out HW2.out) hW
        have hy := blk_below HY.out hW
        have HB4 := Aside0.mk (bstep HB3.out (HW2.out.step hW))
        have HX4 := Aside0.mk hx
        clear hW HY HW2 HX3 HB3 HT3 hx HCV hAA d0 d1 d2 d4
        have c0 := blk_cell hy 0
        have f0 := blk_frozen hy 0
        have c1 := blk_cell hy 1
        have f1 := blk_frozen hy 1
        have c2 := blk_cell hy 2
        have f2 := blk_frozen hy 2
        have c3 := blk_cell hy 3
        have f3 := blk_frozen hy 3
        have c4 := blk_cell hy 4
        have f4 := blk_frozen hy 4
        have c5 := blk_cell hy 5
        have f5 := blk_frozen hy 5
        have c6 := blk_cell hy 6
        have f6 := blk_frozen hy 6
        have c7 := blk_cell hy 7
        have f7 := blk_frozen hy 7
        simp only [List.getElem?_toArray, List.getElem?_cons_zero, List.getElem?_cons_succ] at c0 c1 c2 c3 c4 c5 c6 c7
        go_wp2_with fail
        have hy5 := put8_blk ⟨shN a0, x.toNat, y.toNat, z.toNat, shN a2, shN p, shN q, shN a4⟩ hy
        have HX5 := Aside0.mk (put8_far ⟨shN a0, x.toNat, y.toNat, z.toNat, shN a2, shN p, shN q, shN a4⟩ HX4.out (Nat.ne_of_lt hgt.out))
        have HB5 := Aside0.mk (put8_below ⟨shN a0, x.toNat, y.toNat, z.toNat, shN a2, shN p, shN q, shN a4⟩ HB4.out (Nat.le_of_lt hgt.out))
        clear HB4 HX4 hy c0 c1 c2 c3 c4 c5 c6 c7 f0 f1 f2 f3 f4 f5 f6 f7
        change Code.wp _ _ _ _ (put8 W g8 ⟨shN a0, x.toNat, y.toNat, z.toNat, shN a2, shN p, shN q, shN a4⟩)
        generalize (⟨shN a0, x.toNat, y.toNat, z.toNat, shN a2, shN p, shN q, shN a4⟩ : Bk) = b at HR hy5 HX5 HB5 ⊢
        have hbd : Below (put8 W g8 b).heap.size (put8 W g8 b) (put8 W g8 b).drew := bdrew (Below.refl _ _)
        have hy5 := blk_below hy5 hbd
        have HX5 := Aside0.mk (blk_below HX5.out hbd)
        have HB5 := Aside0.mk (bstep HB5.out hbd)
        clear hbd
        have hKG := kG w g8
        have HVB := Aside0.mk (fun (p : World) => ValidBook_c b p)
        cases hv : vBook b
        · have HK := Aside0.mk (show bkK l = false by rw [HR.out.2, hv]; rfl)
          rw [hv] at HVB
          simp only [Bk.val] at HVB
          clear hv
          refine region_HO (G := KG w g8) 10 (by kernel_rfl) (by kernel_rfl) ?_
          generalize (put8 W g8 b).drew = W5 at hy5 HX5 HB5 ⊢
          refine HO_take hKG (i := 0) (v := ?_) rfl (by kernel_rfl) (by kernel_rfl) (by kernel_rfl) (by decide) (fun _ _ _ h => h) (fun b' hb' => Or.inl ⟨by kernel_rfl, fun W hW => ?_⟩) ?_
          rotate_left
          · have hyW := blk_below (hb'.1 _ hy5) hW
            have HBW := Aside0.mk (bstep (hb'.2 HB5.out) hW)
            have q0 := blk_cell hyW 0
            have q1 := blk_cell hyW 1
            have q2 := blk_cell hyW 2
            have q3 := blk_cell hyW 3
            have q4 := blk_cell hyW 4
            have q5 := blk_cell hyW 5
            have q6 := blk_cell hyW 6
            have q7 := blk_cell hyW 7
            simp only [List.getElem?_toArray, List.getElem?_cons_zero, List.getElem?_cons_succ] at q0 q1 q2 q3 q4 q5 q6 q7
            go_simp
            with_reducible rfl
          refine HO_take hKG (i := 1) (v := ?_) rfl (by kernel_rfl) (by kernel_rfl) (by kernel_rfl) (by decide) (fun _ _ _ h => h) (fun b' hb' => Or.inl ⟨by kernel_rfl, fun W hW => ?_⟩) ?_
          rotate_left
          · have hyW := blk_below (hb'.1 _ hy5) hW
            have HBW := Aside0.mk (bstep (hb'.2 HB5.out) hW)
            have q0 := blk_cell hyW 0
            have q1 := blk_cell hyW 1
            have q2 := blk_cell hyW 2
            have q3 := blk_cell hyW 3
            have q4 := blk_cell hyW 4
            have q5 := blk_cell hyW 5
            have q6 := blk_cell hyW 6
            have q7 := blk_cell hyW 7
            simp only [List.getElem?_toArray, List.getElem?_cons_zero, List.getElem?_cons_succ] at q0 q1 q2 q3 q4 q5 q6 q7
            go_simp
            with_reducible rfl
          refine HO_take hKG (i := 2) (v := .bool false) rfl (by kernel_rfl) (by kernel_rfl) (by kernel_rfl) (by decide) (fun _ _ _ h => h) (fun b' hb' => Or.inl ⟨by kernel_rfl, fun W hW => ?_⟩) ?_
          · have hyW := blk_below (hb'.1 _ hy5) hW
            have HBW := Aside0.mk (bstep (hb'.2 HB5.out) hW)
            have q0 := blk_cell hyW 0
            have q1 := blk_cell hyW 1
            have q2 := blk_cell hyW 2
            have q3 := blk_cell hyW 3
            have q4 := blk_cell hyW 4
            have q5 := blk_cell hyW 5
            have q6 := blk_cell hyW 6
            have q7 := blk_cell hyW 7
            simp only [List.getElem?_toArray, List.getElem?_cons_zero, List.getElem?_cons_succ] at q0 q1 q2 q3 q4 q5 q6 q7
            go_simp
            exact (HVB.out W).mono (fun _ _ h => ⟨h.1, hW.step h.2⟩)
          refine HO_take hKG (i := 3) (v := ?_) rfl (by kernel_rfl) (by kernel_rfl) (by kernel_rfl) (by decide) (fun _ _ _ h => h) (fun b' hb' => Or.inl ⟨by kernel_rfl, fun W hW => ?_⟩) ?_
          rotate_left
          · have hyW := blk_below (hb'.1 _ hy5) hW
            have HBW := Aside0.mk (bstep (hb'.2 HB5.out) hW)
            have q0 := blk_cell hyW 0
            have q1 := blk_cell hyW 1
            have q2 := blk_cell hyW 2
            have q3 := blk_cell hyW 3
            have q4 := blk_cell hyW 4
            have q5 := blk_cell hyW 5
            have q6 := blk_cell hyW 6
            have q7 := blk_cell hyW 7
            simp only [List.getElem?_toArray, List.getElem?_cons_zero, List.getElem?_cons_succ] at q0 q1 q2 q3 q4 q5 q6 q7
            go_simp
            with_reducible rfl
          refine HO_take hKG (i := 4) (v := undef) rfl (by kernel_rfl) (by kernel_rfl) (by kernel_rfl) (by decide) (fun _ _ _ h => h) (fun b' hb' => Or.inr ⟨by kernel_rfl, rfl⟩) ?_
          refine HO_take hKG (i := 5) (v := undef) rfl (by kernel_rfl) (by kernel_rfl) (by kernel_rfl) (by decide) (fun _ _ _ h => h) (fun b' hb' => Or.inr ⟨by kernel_rfl, rfl⟩) ?_
          refine HO_take hKG (i := 6) (v := undef) rfl (by kernel_rfl) (by kernel_rfl) (by kernel_rfl) (by decide) (fun _ _ _ h => h) (fun b' hb' => Or.inr ⟨by kernel_rfl, rfl⟩) ?_
          refine HO_take hKG (i := 7) (v := undef) rfl (by kernel_rfl) (by kernel_rfl) (by kernel_rfl) (by decide) (fun _ _ _ h => h) (fun b' hb' => Or.inr ⟨by kernel_rfl, rfl⟩) ?_
          refine HO_take hKG (i := 8) (v := ?_) rfl (by kernel_rfl) (by kernel_rfl) (by kernel_rfl) (by decide) (fun _ _ _ h => h) (fun b' hb' => Or.inl ⟨by kernel_rfl, fun W hW => ?_⟩) ?_
          rotate_left
          · have hyW := blk_below (hb'.1 _ hy5) hW
            have HBW := Aside0.mk (bstep (hb'.2 HB5.out) hW)
            have q0 := blk_cell hyW 0
            have q1 := blk_cell hyW 1
            have q2 := blk_cell hyW 2
            have q3 := blk_cell hyW 3
            have q4 := blk_cell hyW 4
            have q5 := blk_cell hyW 5
            have q6 := blk_cell hyW 6
            have q7 := blk_cell hyW 7
            simp only [List.getElem?_toArray, List.getElem?_cons_zero, List.getElem?_cons_succ] at q0 q1 q2 q3 q4 q5 q6 q7
            go_simp
            with_reducible rfl
          refine HO_step (i := 9) rfl (by kernel_rfl) (by decide) (by kernel_rfl) (fun W hW K hK => ?_)
          have hx6 := blk_below HX5.out hW
          have hy6 := blk_below hy5 hW
          have HB6 := Aside0.mk (bstep HB5.out hW)
          have c0 := blk_cell hx6 0
          have f0 := blk_frozen hx6 0
          have c1 := blk_cell hx6 1
          have f1 := blk_frozen hx6 1
          have c2 := blk_cell hx6 2
          have f2 := blk_frozen hx6 2
          have c3 := blk_cell hx6 3
          have f3 := blk_frozen hx6 3
          have c4 := blk_cell hx6 4
          have f4 := blk_frozen hx6 4
          have c5 := blk_cell hx6 5
          have f5 := blk_frozen hx6 5
          have c6 := blk_cell hx6 6
          have f6 := blk_frozen hx6 6
          have c7 := blk_cell hx6 7
          have f7 := blk_frozen hx6 7
          simp only [List.getElem?_toArray, List.getElem?_cons_zero, List.getElem?_cons_succ] at c0 c1 c2 c3 c4 c5 c6 c7
          go_simp
          refine hK _ (put8 W w.heap.size b) ⟨fun o ho => ?_, fun hb => put8_below b hb (Nat.le_refl _)⟩ ?_
          · rw [hy6] at ho
            rw [← Option.some.inj ho]
            exact put8_far b hy6 (Nat.ne_of_gt hgt.out)
          clear hK K
          have hz6 := put8_blk b hx6
          have HB7 := Aside0.mk (put8_below b HB6.out (Nat.le_refl _))
          clear HB6 hx6 hy6 c0 c1 c2 c3 c4 c5 c6 c7 f0 f1 f2 f3 f4 f5 f6 f7 hW
          generalize put8 W w.heap.size b = W6 at hz6 HB7 ⊢
          refine HO_end (by kernel_rfl) (fun W7 hW7 => ?_)
          have hx7 := blk_below hz6 hW7
          have HB8 := Aside0.mk (bstep HB7.out hW7)
          have c0 := blk_cell hx7 0
          have f0 := blk_frozen hx7 0
          have c1 := blk_cell hx7 1
          have f1 := blk_frozen hx7 1
          have c2 := blk_cell hx7 2
          have f2 := blk_frozen hx7 2
          have c3 := blk_cell hx7 3
          have f3 := blk_frozen hx7 3
          have c4 := blk_cell hx7 4
          have f4 := blk_frozen hx7 4
          have c5 := blk_cell hx7 5
          have f5 := blk_frozen hx7 5
          have c6 := blk_cell hx7 6
          have f6 := blk_frozen hx7 6
          have c7 := blk_cell hx7 7
          have f7 := blk_frozen hx7 7
          simp only [List.getElem?_toArray, List.getElem?_cons_zero, List.getElem?_cons_succ] at c0 c1 c2 c3 c4 c5 c6 c7
          go_wp2
          exact bodyPost_ret (v := .tuple #[b.val, .bool (false)]) (by simp [results, Tryz.results50, go_sem, c0, c1, c2, c3, c4, c5, c6, c7, f0, f1, f2, f3, f4, f5, f6, f7, Bk.val]) rfl ⟨ret_bk HR.out.1.symm HK.out.symm, HB8.out⟩
        · have HK := Aside0.mk (show bkK l = ((bS (bkT b)).toList == (bS l).toList) by rw [HR.out.2, hv, bS_list, bS_list]; rfl)
          have HVT := Aside0.mk (fun (p : World) (hp : Below w.heap.size w p) => bookText_c b (vB1 hv) p (HT0.out.tab.below hp))
          rw [hv] at HVB
          simp only [Bk.val] at HVB HVT
          clear hv
          refine region_HO (G := KG w g8) 10 (by kernel_rfl) (by kernel_rfl) ?_
          generalize (put8 W g8 b).drew = W5 at hy5 HX5 HB5 ⊢
          refine HO_take hKG (i := 0) (v := ?_) rfl (by kernel_rfl) (by kernel_rfl) (by kernel_rfl) (by decide) (fun _ _ _ h => h) (fun b' hb' => Or.inl ⟨by kernel_rfl, fun W hW => ?_⟩) ?_
          rotate_left
          · have hyW := blk_below (hb'.1 _ hy5) hW
            have HBW := Aside0.mk (bstep (hb'.2 HB5.out) hW)
            have q0 := blk_cell hyW 0
            have q1 := blk_cell hyW 1
            have q2 := blk_cell hyW 2
            have q3 := blk_cell hyW 3
            have q4 := blk_cell hyW 4
            have q5 := blk_cell hyW 5
            have q6 := blk_cell hyW 6
            have q7 := blk_cell hyW 7
            simp only [List.getElem?_toArray, List.getElem?_cons_zero, List.getElem?_cons_succ] at q0 q1 q2 q3 q4 q5 q6 q7
            go_simp
            with_reducible rfl
          refine HO_take hKG (i := 1) (v := ?_) rfl (by kernel_rfl) (by kernel_rfl) (by kernel_rfl) (by decide) (fun _ _ _ h => h) (fun b' hb' => Or.inl ⟨by kernel_rfl, fun W hW => ?_⟩) ?_
          rotate_left
          · have hyW := blk_below (hb'.1 _ hy5) hW
            have HBW := Aside0.mk (bstep (hb'.2 HB5.out) hW)
            have q0 := blk_cell hyW 0
            have q1 := blk_cell hyW 1
            have q2 := blk_cell hyW 2
            have q3 := blk_cell hyW 3
            have q4 := blk_cell hyW 4
            have q5 := blk_cell hyW 5
            have q6 := blk_cell hyW 6
            have q7 := blk_cell hyW 7
            simp only [List.getElem?_toArray, List.getElem?_cons_zero, List.getElem?_cons_succ] at q0 q1 q2 q3 q4 q5 q6 q7
            go_simp
            with_reducible rfl
          refine HO_take hKG (i := 2) (v := .bool true) rfl (by kernel_rfl) (by kernel_rfl) (by kernel_rfl) (by decide) (fun _ _ _ h => h) (fun b' hb' => Or.inl ⟨by kernel_rfl, fun W hW => ?_⟩) ?_
          · have hyW := blk_below (hb'.1 _ hy5) hW
            have HBW := Aside0.mk (bstep (hb'.2 HB5.out) hW)
            have q0 := blk_cell hyW 0
            have q1 := blk_cell hyW 1
            have q2 := blk_cell hyW 2
            have q3 := blk_cell hyW 3
            have q4 := blk_cell hyW 4
            have q5 := blk_cell hyW 5
            have q6 := blk_cell hyW 6
            have q7 := blk_cell hyW 7
            simp only [List.getElem?_toArray, List.getElem?_cons_zero, List.getElem?_cons_succ] at q0 q1 q2 q3 q4 q5 q6 q7
            go_simp
            exact (HVB.out W).mono (fun _ _ h => ⟨h.1, hW.step h.2⟩)
          refine HO_take hKG (i := 3) (v := ?_) rfl (by kernel_rfl) (by kernel_rfl) (by kernel_rfl) (by decide) (fun _ _ _ h => h) (fun b' hb' => Or.inl ⟨by kernel_rfl, fun W hW => ?_⟩) ?_
          rotate_left
          · have hyW := blk_below (hb'.1 _ hy5) hW
            have HBW := Aside0.mk (bstep (hb'.2 HB5.out) hW)
            have q0 := blk_cell hyW 0
            have q1 := blk_cell hyW 1
            have q2 := blk_cell hyW 2
            have q3 := blk_cell hyW 3
            have q4 := blk_cell hyW 4
            have q5 := blk_cell hyW 5
            have q6 := blk_cell hyW 6
            have q7 := blk_cell hyW 7
            simp only [List.getElem?_toArray, List.getElem?_cons_zero, List.getElem?_cons_succ] at q0 q1 q2 q3 q4 q5 q6 q7
            go_simp
            with_reducible rfl
          refine HO_take hKG (i := 4) (v := ?_) rfl (by kernel_rfl) (by kernel_rfl) (by kernel_rfl) (by decide) (fun _ _ _ h => h) (fun b' hb' => Or.inl ⟨by kernel_rfl, fun W hW => ?_⟩) ?_
          rotate_left
          · have hyW := blk_below (hb'.1 _ hy5) hW
            have HBW := Aside0.mk (bstep (hb'.2 HB5.out) hW)
            have q0 := blk_cell hyW 0
            have q1 := blk_cell hyW 1
            have q2 := blk_cell hyW 2
            have q3 := blk_cell hyW 3
            have q4 := blk_cell hyW 4
            have q5 := blk_cell hyW 5
            have q6 := blk_cell hyW 6
            have q7 := blk_cell hyW 7
            simp only [List.getElem?_toArray, List.getElem?_cons_zero, List.getElem?_cons_succ] at q0 q1 q2 q3 q4 q5 q6 q7
            go_simp
            with_reducible rfl
          refine HO_take hKG (i := 5) (v := .string (bS (bkT b))) rfl (by kernel_rfl) (by kernel_rfl) (by kernel_rfl) (by decide) (fun _ _ _ h => h) (fun b' hb' => Or.inl ⟨by kernel_rfl, fun W hW => ?_⟩) ?_
          · have hyW := blk_below (hb'.1 _ hy5) hW
            have HBW := Aside0.mk (bstep (hb'.2 HB5.out) hW)
            have q0 := blk_cell hyW 0
            have q1 := blk_cell hyW 1
            have q2 := blk_cell hyW 2
            have q3 := blk_cell hyW 3
            have q4 := blk_cell hyW 4
            have q5 := blk_cell hyW 5
            have q6 := blk_cell hyW 6
            have q7 := blk_cell hyW 7
            simp only [List.getElem?_toArray, List.getElem?_cons_zero, List.getElem?_cons_succ] at q0 q1 q2 q3 q4 q5 q6 q7
            go_simp
            exact (HVT.out W HBW.out).mono (fun _ _ h => ⟨h.1, hW.step h.2⟩)
          refine HO_take hKG (i := 6) (v := ?_) rfl (by kernel_rfl) (by kernel_rfl) (by kernel_rfl) (by decide) (fun _ _ _ h => h) (fun b' hb' => Or.inl ⟨by kernel_rfl, fun W hW => ?_⟩) ?_
          rotate_left
          · have hyW := blk_below (hb'.1 _ hy5) hW
            have HBW := Aside0.mk (bstep (hb'.2 HB5.out) hW)
            have q0 := blk_cell hyW 0
            have q1 := blk_cell hyW 1
            have q2 := blk_cell hyW 2
            have q3 := blk_cell hyW 3
            have q4 := blk_cell hyW 4
            have q5 := blk_cell hyW 5
            have q6 := blk_cell hyW 6
            have q7 := blk_cell hyW 7
            simp only [List.getElem?_toArray, List.getElem?_cons_zero, List.getElem?_cons_succ] at q0 q1 q2 q3 q4 q5 q6 q7
            go_simp
            with_reducible rfl
          refine HO_take hKG (i := 7) (v := ?_) rfl (by kernel_rfl) (by kernel_rfl) (by kernel_rfl) (by decide) (fun _ _ _ h => h) (fun b' hb' => Or.inl ⟨by kernel_rfl, fun W hW => ?_⟩) ?_
          rotate_left
          · have hyW := blk_below (hb'.1 _ hy5) hW
            have HBW := Aside0.mk (bstep (hb'.2 HB5.out) hW)
            have q0 := blk_cell hyW 0
            have q1 := blk_cell hyW 1
            have q2 := blk_cell hyW 2
            have q3 := blk_cell hyW 3
            have q4 := blk_cell hyW 4
            have q5 := blk_cell hyW 5
            have q6 := blk_cell hyW 6
            have q7 := blk_cell hyW 7
            simp only [List.getElem?_toArray, List.getElem?_cons_zero, List.getElem?_cons_succ] at q0 q1 q2 q3 q4 q5 q6 q7
            go_simp
            with_reducible rfl
          refine HO_take hKG (i := 8) (v := ?_) rfl (by kernel_rfl) (by kernel_rfl) (by kernel_rfl) (by decide) (fun _ _ _ h => h) (fun b' hb' => Or.inl ⟨by kernel_rfl, fun W hW => ?_⟩) ?_
          rotate_left
          · have hyW := blk_below (hb'.1 _ hy5) hW
            have HBW := Aside0.mk (bstep (hb'.2 HB5.out) hW)
            have q0 := blk_cell hyW 0
            have q1 := blk_cell hyW 1
            have q2 := blk_cell hyW 2
            have q3 := blk_cell hyW 3
            have q4 := blk_cell hyW 4
            have q5 := blk_cell hyW 5
            have q6 := blk_cell hyW 6
            have q7 := blk_cell hyW 7
            simp only [List.getElem?_toArray, List.getElem?_cons_zero, List.getElem?_cons_succ] at q0 q1 q2 q3 q4 q5 q6 q7
            go_simp
            with_reducible rfl
          refine HO_step (i := 9) rfl (by kernel_rfl) (by decide) (by kernel_rfl) (fun W hW K hK => ?_)
          have hx6 := blk_below HX5.out hW
          have hy6 := blk_below hy5 hW
          have HB6 := Aside0.mk (bstep HB5.out hW)
          have c0 := blk_cell hx6 0
          have f0 := blk_frozen hx6 0
          have c1 := blk_cell hx6 1
          have f1 := blk_frozen hx6 1
          have c2 := blk_cell hx6 2
          have f2 := blk_frozen hx6 2
          have c3 := blk_cell hx6 3
          have f3 := blk_frozen hx6 3
          have c4 := blk_cell hx6 4
          have f4 := blk_frozen hx6 4
          have c5 := blk_cell hx6 5
          have f5 := blk_frozen hx6 5
          have c6 := blk_cell hx6 6
          have f6 := blk_frozen hx6 6
          have c7 := blk_cell hx6 7
          have f7 := blk_frozen hx6 7
          simp only [List.getElem?_toArray, List.getElem?_cons_zero, List.getElem?_cons_succ] at c0 c1 c2 c3 c4 c5 c6 c7
          go_simp
          refine hK _ (put8 W w.heap.size b) ⟨fun o ho => ?_, fun hb => put8_below b hb (Nat.le_refl _)⟩ ?_
          · rw [hy6] at ho
            rw [← Option.some.inj ho]
            exact put8_far b hy6 (Nat.ne_of_gt hgt.out)
          clear hK K
          have hz6 := put8_blk b hx6
          have HB7 := Aside0.mk (put8_below b HB6.out (Nat.le_refl _))
          clear HB6 hx6 hy6 c0 c1 c2 c3 c4 c5 c6 c7 f0 f1 f2 f3 f4 f5 f6 f7 hW
          generalize put8 W w.heap.size b = W6 at hz6 HB7 ⊢
          refine HO_end (by kernel_rfl) (fun W7 hW7 => ?_)
          have hx7 := blk_below hz6 hW7
          have HB8 := Aside0.mk (bstep HB7.out hW7)
          have c0 := blk_cell hx7 0
          have f0 := blk_frozen hx7 0
          have c1 := blk_cell hx7 1
          have f1 := blk_frozen hx7 1
          have c2 := blk_cell hx7 2
          have f2 := blk_frozen hx7 2
          have c3 := blk_cell hx7 3
          have f3 := blk_frozen hx7 3
          have c4 := blk_cell hx7 4
          have f4 := blk_frozen hx7 4
          have c5 := blk_cell hx7 5
          have f5 := blk_frozen hx7 5
          have c6 := blk_cell hx7 6
          have f6 := blk_frozen hx7 6
          have c7 := blk_cell hx7 7
          have f7 := blk_frozen hx7 7
          simp only [List.getElem?_toArray, List.getElem?_cons_zero, List.getElem?_cons_succ] at c0 c1 c2 c3 c4 c5 c6 c7
          go_wp2
          exact bodyPost_ret (v := .tuple #[b.val, .bool (((bS (bkT b)).toList == (bS l).toList))]) (by simp [results, Tryz.results50, go_sem, c0, c1, c2, c3, c4, c5, c6, c7, f0, f1, f2, f3, f4, f5, f6, f7, Bk.val]) rfl ⟨ret_bk HR.out.1.symm HK.out.symm, HB8.out⟩
    · have HN := Aside0.mk (show rbV l = Bk0 ∧ bkK l = false from ⟨rb_n3 hws h3, (bk_no (rd_none3 hws h3)).2⟩)
      rw [hws] at HS HML
      have e3 : ((((bS a1).size : Nat) : Int) != 3) = true := by rw [bS_size]; simp; omega
      have e5 : (((([a0, a1, a2, a3, a4] : List Bs).length : Nat) : Int) != 5) = false := rfl
      clear hws h3
      go_enter Tryz.func50, Tryz.ntmps50
      go_wp2_with fail
      generalize World.alloc w _ = W1 at hbx hb0 HT ⊢
      refine (HS.out _ HT.out).mono ?_; rintro _ w1 ⟨_, rfl, hb1, A1, c1, rfl, hc1, hC1⟩
      have HB1 := Aside0.mk (bstep hb0 hb1)
      have hx1 := blk_below hbx hb1
      obtain ⟨ad, rfl, d0, d1, d2, d3, d4⟩ := at5 hC1
      clear hb1 hC1 hbx HT
      have c0 := blk_cell hx1 0
      have f0 := blk_frozen hx1 0
      have c1 := blk_cell hx1 1
      have f1 := blk_frozen hx1 1
      have c2 := blk_cell hx1 2
      have f2 := blk_frozen hx1 2
      have c3 := blk_cell hx1 3
      have f3 := blk_frozen hx1 3
      have c4 := blk_cell hx1 4
      have f4 := blk_frozen hx1 4
      have c5 := blk_cell hx1 5
      have f5 := blk_frozen hx1 5
      have c6 := blk_cell hx1 6
      have f6 := blk_frozen hx1 6
      have c7 := blk_cell hx1 7
      have f7 := blk_frozen hx1 7
      simp only [List.getElem?_toArray, List.getElem?_cons_zero, List.getElem?_cons_succ] at c0 c1 c2 c3 c4 c5 c6 c7
      go_wp2
      refine bodyPost_ret (v := .tuple #[Bk0.val, .bool false]) (by simp [results, Tryz.results50, go_sem, c0, c1, c2, c3, c4, c5, c6, c7, f0, f1, f2, f3, f4, f5, f6, f7, Bk.val]) rfl ⟨ret_bk HN.out.1.symm HN.out.2.symm, ?_⟩
      repeat (refine Below.setCell ?_ (by simp) _)
      exact HB1.out
  · have HN := Aside0.mk (show rbV l = Bk0 ∧ bkK l = false from ⟨rb_n hn, (bk_no (rd_none hn)).2⟩)
    have hn' : (((splitL 32 l).length : Int) != 5) = true := by simp; omega
    clear hn
    generalize splitL 32 l = ws at HS HML hn'
    go_enter Tryz.func50, Tryz.ntmps50
    go_wp2_with fail
    generalize World.alloc w _ = W1 at hbx hb0 HT ⊢
    refine (HS.out _ HT.out).mono ?_; rintro _ w1 ⟨_, rfl, hb1, A1, c1_, rfl, hc1, hC1⟩
    have HB1 := Aside0.mk (bstep hb0 hb1)
    have hx1 := blk_below hbx hb1
    clear hb1 hC1 hbx HT
    have c0 := blk_cell hx1 0
    have f0 := blk_frozen hx1 0
    have c1 := blk_cell hx1 1
    have f1 := blk_frozen hx1 1
    have c2 := blk_cell hx1 2
    have f2 := blk_frozen hx1 2
    have c3 := blk_cell hx1 3
    have f3 := blk_frozen hx1 3
    have c4 := blk_cell hx1 4
    have f4 := blk_frozen hx1 4
    have c5 := blk_cell hx1 5
    have f5 := blk_frozen hx1 5
    have c6 := blk_cell hx1 6
    have f6 := blk_frozen hx1 6
    have c7 := blk_cell hx1 7
    have f7 := blk_frozen hx1 7
    simp only [List.getElem?_toArray, List.getElem?_cons_zero, List.getElem?_cons_succ] at c0 c1 c2 c3 c4 c5 c6 c7
    go_wp2
    refine bodyPost_ret (v := .tuple #[Bk0.val, .bool false]) (by simp [results, Tryz.results50, go_sem, c0, c1, c2, c3, c4, c5, c6, c7, f0, f1, f2, f3, f4, f5, f6, f7, Bk.val]) rfl ⟨ret_bk HN.out.1.symm HN.out.2.symm, ?_⟩
    repeat (refine Below.setCell ?_ (by simp) _)
    exact HB1.out
end Go.Proofs.YtkilblnlplfknaaGreatDoor
end
section
/- ReadBook of both. -/
namespace Go.Proofs.YtkilblnlplfknaaGreatDoor
open Go.RowKit Go.Proofs.YtkilblnlplfknaaGreatDoorW.PrintWords Go.Proofs.YtkilblnlplfknaaGreatDoorW.PrintMore
set_option linter.unusedVariables false
set_option linter.unusedSimpArgs false
set_option maxRecDepth 100000

noncomputable def bkE (l : Bs) : Int := if bkK l = true then 0 else 5
theorem bk_zero {l : Bs} (h : bkK l = false) : bkV l = Bk0 := by
  by_cases hx : ∃ b, RdB l b
  · obtain ⟨b, hb⟩ := hx
    rw [(bk_ok hb).2] at h
    cases h
  · exact (bk_no (fun b hb => hx ⟨b, hb⟩)).1
theorem ret_bkE {a b : Bk} {c d : Int} (h : a = b) (k : c = d) : Ending.returned (.tuple #[a.val, .int .i64 c]) = .returned (.tuple #[b.val, .int .i64 d]) := by rw [h, k]
set_option maxHeartbeats 4000000 in
theorem ReadBook_c (l : Bs) (hl : l.length ≤ 1048576) (w : World) (ht : Txt w) : Calls Tryz.prog 21 #[.string (bS l)] w (Ret w (.tuple #[(bkV l).val, .int .i64 (bkE l)])) := by
  have hb0 : Below w.heap.size w (w.alloc (.cells #[.int .i16 0, .int .u8 0, .int .u8 0, .int .u8 0, .int .i16 0, .int .i16 0, .int .i16 0, .int .i16 0] 30)) := balloc (Below.refl _ _) _
  have hbx := blk_new w (.cells #[.int .i16 0, .int .u8 0, .int .u8 0, .int .u8 0, .int .i16 0, .int .i16 0, .int .i16 0, .int .i16 0] 30)
  have HR := Aside0.mk (fun W h => readBook_c l hl W h)
  have HT := Aside0.mk (ht.below hb0)
  clear ht
  simp only [Bk.val] at HR
  cases hk : bkK l
  · have HN := Aside0.mk (show bkV l = Bk0 ∧ bkE l = 5 from ⟨bk_zero hk, by unfold bkE; rw [hk]; rfl⟩)
    rw [hk] at HR
    clear hk
    generalize rbV l = b at HR
    go_enter Tryz.func21, Tryz.ntmps21
    go_wp2_with fail
    generalize World.alloc w _ = W1 at hbx hb0 HT ⊢
    refine (HR.out W1 HT.out).mono ?_; rintro _ w1 ⟨rfl, hb1⟩
    have HB1 := Aside0.mk (bstep hb0 hb1)
    have hx1 := blk_alloc (blk_below hbx hb1) (.cells #[.int .i16 b.c, .int .u8 b.m0, .int .u8 b.m1, .int .u8 b.m2, .int .i16 b.v, .int .i16 b.wd, .int .i16 b.h, .int .i16 b.wt] 30)
    clear hb1 hbx HT hb0
    have c0 := blk_cell hx1 0
    have f0 := blk_frozen hx1 0
    have c1 := blk_cell hx1 1
    have f1 := blk_frozen hx1 1
    have c2 := blk_cell hx1 2
    have f2 := blk_frozen hx1 2
    have c3 := blk_cell hx1 3
    have f3 := blk_frozen hx1 3
    have c4 := blk_cell hx1 4
    have f4 := blk_frozen hx1 4
    have c5 := blk_cell hx1 5
    have f5 := blk_frozen hx1 5
    have c6 := blk_cell hx1 6
    have f6 := blk_frozen hx1 6
    have c7 := blk_cell hx1 7
    have f7 := blk_frozen hx1 7
    simp only [List.getElem?_toArray, List.getElem?_cons_zero, List.getElem?_cons_succ] at c0 c1 c2 c3 c4 c5 c6 c7
    go_wp2
    refine bodyPost_ret (v := .tuple #[Bk0.val, .int .i64 5]) (by simp [results, Tryz.results21, go_sem, c0, c1, c2, c3, c4, c5, c6, c7, f0, f1, f2, f3, f4, f5, f6, f7, Bk.val]) rfl ⟨ret_bkE HN.out.1.symm HN.out.2.symm, ?_⟩
    repeat (refine Below.setCell ?_ (by simp) _)
    exact balloc HB1.out _
  · have HN := Aside0.mk (show bkV l = rbV l ∧ bkE l = 0 from ⟨(rb_ok hk).symm, by unfold bkE; rw [hk]; rfl⟩)
    rw [hk] at HR
    clear hk
    generalize rbV l = b at HR HN
    go_enter Tryz.func21, Tryz.ntmps21
    go_wp2_with fail
    generalize World.alloc w _ = W1 at hbx hb0 HT ⊢
    refine (HR.out W1 HT.out).mono ?_; rintro _ w1 ⟨rfl, hb1⟩
    have HB1 := Aside0.mk (bstep hb0 hb1)
    have hx1 := blk_alloc (blk_below hbx hb1) (.cells #[.int .i16 b.c, .int .u8 b.m0, .int .u8 b.m1, .int .u8 b.m2, .int .i16 b.v, .int .i16 b.wd, .int .i16 b.h, .int .i16 b.wt] 30)
    clear hb1 hbx HT hb0
    have c0 := blk_cell hx1 0
    have f0 := blk_frozen hx1 0
    have c1 := blk_cell hx1 1
    have f1 := blk_frozen hx1 1
    have c2 := blk_cell hx1 2
    have f2 := blk_frozen hx1 2
    have c3 := blk_cell hx1 3
    have f3 := blk_frozen hx1 3
    have c4 := blk_cell hx1 4
    have f4 := blk_frozen hx1 4
    have c5 := blk_cell hx1 5
    have f5 := blk_frozen hx1 5
    have c6 := blk_cell hx1 6
    have f6 := blk_frozen hx1 6
    have c7 := blk_cell hx1 7
    have f7 := blk_frozen hx1 7
    simp only [List.getElem?_toArray, List.getElem?_cons_zero, List.getElem?_cons_succ] at c0 c1 c2 c3 c4 c5 c6 c7
    go_wp2
    refine bodyPost_ret (v := .tuple #[b.val, .int .i64 0]) (by simp [results, Tryz.results21, go_sem, c0, c1, c2, c3, c4, c5, c6, c7, f0, f1, f2, f3, f4, f5, f6, f7, Bk.val]) rfl ⟨ret_bkE HN.out.1.symm HN.out.2.symm, ?_⟩
    repeat (refine Below.setCell ?_ (by simp) _)
    exact balloc HB1.out _
end Go.Proofs.YtkilblnlplfknaaGreatDoor
end
section
/- The law FnExactBookText returns true of every input. -/
namespace Go.Proofs.YtkilblnlplfknaaGreatDoor
open Go.RowKit Go.Proofs.YtkilblnlplfknaaGreatDoorW.PrintWords Go.Proofs.YtkilblnlplfknaaGreatDoorW.PrintMore
set_option linter.unusedVariables false
set_option linter.unusedSimpArgs false
set_option maxRecDepth 100000

def tB (b : Bk) : ByteArray := if vBook b = true then bS (bkT b) else ⟨#[]⟩
set_option maxHeartbeats 2000000 in
theorem BookText_c (b : Bk) (w : World) (ht : Tab w) : Calls Tryz.prog 22 #[b.val] w (Ret w (.string (tB b))) := by
  have hbx := BkAt.box w b 30
  have hb0 : Below w.heap.size w (w.alloc (.cells #[.int .i16 b.c, .int .u8 b.m0, .int .u8 b.m1, .int .u8 b.m2, .int .i16 b.v, .int .i16 b.wd, .int .i16 b.h, .int .i16 b.wt] 30)) := balloc (Below.refl _ _) _
  have HT := Aside0.mk ht
  have HI := Aside0.mk (fun W => ValidBook_c b W)
  simp only [Bk.val] at HI ⊢
  clear ht
  cases hv : vBook b
  · have HV := Aside0.mk (show tB b = ⟨#[]⟩ by unfold tB; rw [hv]; rfl)
    rw [hv] at HI
    clear hv
    go_enter Tryz.func22, Tryz.ntmps22
    go_wp2_with fail
    generalize World.alloc w _ = W1 at hbx hb0 ⊢
    generalize w.heap.size = g at hbx ⊢
    have HB0 := Aside0.mk hb0
    obtain ⟨c0, c1, c2, c3, c4, c5, c6, c7⟩ := hbx
    clear hb0
    go_wp2_with (go_at_call 23; refine (HI.out _).mono ?_; rintro _ w2 ⟨rfl, hb2⟩)
    go_ret
    exact ⟨ret_str HV.out.symm, bstep HB0.out hb2⟩
  · have HV := Aside0.mk (show tB b = bS (bkT b) by unfold tB; rw [hv]; rfl)
    have HC := Aside0.mk (fun W h => bookText_c b (vB1 hv) W h)
    rw [hv] at HI
    simp only [Bk.val] at HC
    clear hv
    go_enter Tryz.func22, Tryz.ntmps22
    go_wp2_with fail
    generalize World.alloc w _ = W1 at hbx hb0 ⊢
    generalize w.heap.size = g at hbx ⊢
    have HB0 := Aside0.mk hb0
    have HX := Aside0.mk hbx
    obtain ⟨c0, c1, c2, c3, c4, c5, c6, c7⟩ := hbx
    clear hb0
    go_wp2_with fail
    refine (HI.out _).mono ?_; rintro _ w2 ⟨rfl, hb2⟩
    have HB2 := Aside0.mk (bstep HB0.out hb2)
    clear c0 c1 c2 c3 c4 c5 c6 c7
    obtain ⟨c0, c1, c2, c3, c4, c5, c6, c7⟩ := HX.out.below hb2
    clear hb2
    go_wp2_with fail
    refine (HC.out _ (HT.out.below HB2.out)).mono ?_; rintro _ w3 ⟨rfl, hb3⟩
    go_wp2
    go_ret
    exact ⟨ret_str HV.out.symm, bstep HB2.out hb3⟩
end Go.Proofs.YtkilblnlplfknaaGreatDoor
end
