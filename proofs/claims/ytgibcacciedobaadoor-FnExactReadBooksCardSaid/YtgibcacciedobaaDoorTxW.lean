/- A book's text: the program's and the reference's. -/
import Derived.Test.YtgibcacciedobaaDoorTxE
import Derived.Test.YtgibcacciedobaaDoorTxB
import Derived.Test.YtgibcacciedobaaDoorOver
import Derived.Test.YtgibcacciedobaaDoorTail
import Derived.Test.YtgibcacciedobaaDoorSpecBook
import Derived.StillTailTactics
import Derived.Still
import Derived.Deep.QuietTactic
import Derived.BigQuiet
namespace Go.Proofs.YtgibcacciedobaaDoor
open Go.RowKit Go.Proofs.YtgibcacciedobaaDoorW.PrintWords Go.Proofs.YtgibcacciedobaaDoorW.PrintMore
set_option linter.unusedVariables false
set_option linter.unusedSimpArgs false
set_option maxRecDepth 100000

theorem mk_conv {W : World} {g : Nat} {b : Bk} (h : BkAt W ⟨g, 0, none⟩ b) (c : Nat) : (convert 99 9 (.slice (some ⟨g, 1, none⟩) 3 c)).run Tryd.prog W = .ok (.string (bS (mkB b))) W :=
  Kd.C_string (xs := [b.m0, b.m1, b.m2]) Tryd.underlying99 Tryd.underlying5 Tryd.underlying9 (marks_C W g 1 b.m0 b.m1 b.m2 h.c1 h.c2 h.c3)
theorem mk_convA {W : World} {a : Addr} {b : Bk} (h : BkAt W a b) (c : Nat) : (convert 99 9 (.slice (some ⟨a.block, a.off + 1, none⟩) 3 c)).run Tryd.prog W = .ok (.string (bS (mkB b))) W :=
  Kd.C_string (xs := [b.m0, b.m1, b.m2]) Tryd.underlying99 Tryd.underlying5 Tryd.underlying9 (marks_C W a.block (a.off + 1) b.m0 b.m1 b.m2 h.c1 h.c2 h.c3)
theorem dgS_le {n : Int} (h0 : 0 ≤ n) (h1 : n ≤ 99999) : (bS (dg n)).size ≤ 5 := by
  rw [bS_size]
  exact dg_len 4 h0 (by omega)
theorem mkS_size (b : Bk) : (bS (mkB b)).size = 3 := by rw [bS_size]; rfl
set_option maxHeartbeats 4000000 in
theorem bookText_c (b : Bk) (hv : VB1 b) (w : World) (ht : Tab w) : Calls Tryd.prog 47 #[b.val] w (Ret w (.string (bS (bkT b)))) := by
  have hbx := BkAt.box w b 27
  have hb0 : Below w.heap.size w (w.alloc (.cells #[.int .i16 b.c, .int .u8 b.m0, .int .u8 b.m1, .int .u8 b.m2, .int .i16 b.v, .int .i16 b.wd, .int .i16 b.h, .int .i16 b.wt] 27)) := balloc (Below.refl _ _) _
  have HT := Aside0.mk (ht.below hb0)
  have HV := Aside0.mk hv
  simp only [Bk.val]
  clear ht hv
  go_enter Tryd.func47, Tryd.ntmps47
  go_wp2_with fail
  generalize World.alloc w _ = W1 at hbx hb0 HT ⊢
  generalize w.heap.size = g at hbx ⊢
  have HB0 := Aside0.mk hb0
  have HBX := Aside0.mk hbx
  clear hb0
  obtain ⟨c0, c1, c2, c3, c4, c5, c6, c7⟩ := hbx
  have o0 : ∀ p : Over W1, p.W.cell? ⟨g, 0, none⟩ = some (.int .i16 b.c) := Over.cell c0
  have o4 : ∀ p : Over W1, p.W.cell? ⟨g, 4, none⟩ = some (.int .i16 b.v) := Over.cell c4
  have o5 : ∀ p : Over W1, p.W.cell? ⟨g, 5, none⟩ = some (.int .i16 b.wd) := Over.cell c5
  have o6 : ∀ p : Over W1, p.W.cell? ⟨g, 6, none⟩ = some (.int .i16 b.h) := Over.cell c6
  have o7 : ∀ p : Over W1, p.W.cell? ⟨g, 7, none⟩ = some (.int .i16 b.wt) := Over.cell c7
  have ocv : ∀ (p : Over W1) (c : Nat), (convert 99 9 (.slice (some ⟨g, 1, none⟩) 3 c)).run Tryd.prog p.W = .ok (.string (bS (mkB b))) p.W := fun p c => mk_conv (HBX.out.below p.h) c
  clear c0 c1 c2 c3 c4 c5 c6 c7
  have HD := Aside0.mk (fun (n : Int) (h : 0 ≤ n ∧ n ≤ 32767) (p : Over W1) => Calls.over_of (dec16_c n h.1 h.2 p.W (HT.out.below p.h)))
  have x1 := dgS_le (n := b.wd) (by have := HV.out.wd; omega) (by have := HV.out.wd; omega)
  have x2 := dgS_le (n := b.h) (by have := HV.out.h; omega) (by have := HV.out.h; omega)
  have y1 : ¬ (9223372036854775807 < (bS (dg b.wd)).size + 1) := by omega
  have y2 : ¬ (9223372036854775807 < (bS (dg b.wd)).size + 1 + (bS (dg b.h)).size) := by omega
  refine region_over_tail 20 (by kernel_rfl) (by kernel_rfl) ?_
  simp only [List.take_succ_cons, List.take_zero, List.drop_succ_cons, List.drop_zero]
  repeat (go_big_quiet_step (first | (go_at_call 85; exact HD.out _ (by first | exact ⟨HV.out.c.1, by have := HV.out.c; omega⟩ | exact ⟨by have := HV.out.v; omega, by have := HV.out.v; omega⟩ | exact ⟨by have := HV.out.wd; omega, by have := HV.out.wd; omega⟩ | exact ⟨by have := HV.out.h; omega, by have := HV.out.h; omega⟩ | exact ⟨by have := HV.out.wt; omega, by have := HV.out.wt; omega⟩) _)))
  refine wpQuiet_nil ?_
  intro wq hw'
  have hq_wq := over_out hw'
  clear hw'
  have hx : bS (dg b.wd) ++ { data := #[120] } ++ bS (dg b.h) = bS (dg b.wd ++ 120 :: dg b.h) := by
    rw [show ({ data := #[120] } : ByteArray) = bS [120] from rfl, bS_append, bS_append, List.append_assoc]
    rfl
  have HJ := Aside0.mk (Tryd.strings_Join wq.heap.size 0 5 [bS (dg b.c), bS (mkB b), bS (dg b.v), bS (dg b.wd ++ 120 :: dg b.h), bS (dg b.wt)] ⟨#[32]⟩ (wq.alloc (.cells #[.string (bS (dg b.c)), .string (bS (mkB b)), .string (bS (dg b.v)), .string (bS (dg b.wd ++ 120 :: dg b.h)), .string (bS (dg b.wt))] 9))
    (fun j x hj => by match j, hj with
      | 0, hj => cases hj; exact (blk_cell (blk_new wq _) 0).trans rfl
      | 1, hj => cases hj; exact (blk_cell (blk_new wq _) 1).trans rfl
      | 2, hj => cases hj; exact (blk_cell (blk_new wq _) 2).trans rfl
      | 3, hj => cases hj; exact (blk_cell (blk_new wq _) 3).trans rfl
      | 4, hj => cases hj; exact (blk_cell (blk_new wq _) 4).trans rfl) (by simp) (by simp) (by simp)
    (by
      simp only [List.map_cons, List.map_nil, bS_toList]
      rw [bkT_join]
      have := bkT_len HV.out
      omega))
  have HB1 := Aside0.mk (bstep HB0.out hq_wq)
  clear o0 o4 o5 o6 o7 ocv x1 x2 y1 y2 hq_wq
  simp only [hx]
  go_wp2_with fail
  refine HJ.out.mono ?_; rintro _ w2 ⟨rfl, hb2⟩
  have HB2 := Aside0.mk (bstep (balloc HB1.out _) hb2)
  clear hb2
  go_wp2
  go_ret
  refine ⟨ret_str ?_, HB2.out⟩
  simp only [List.map_cons, List.map_nil, bS_toList]
  rw [bkT_join]
  rfl
theorem str_assoc (a b c : Bs) : bS a ++ bS b ++ bS c = bS (a ++ b ++ c) := by rw [bS_append, bS_append]
set_option maxHeartbeats 4000000 in
theorem l01Text_c (b : Bk) (hv : VB1 b) (a : Addr) (w : World) (ha : BkAt w a b) : Calls Tryd.prog 44 #[.pointer (some a)] w (Ret w (.string (bS (bkT b)))) := by
  have HV := Aside0.mk hv
  have HBX := Aside0.mk ha
  have HD := Aside0.mk (fun (n : Int) (h : 0 ≤ n ∧ n ≤ 32767) (W : World) (p : Over W) => Calls.over_of (Decimal_c (n.toNat + 1) n (by omega) h.1 (by omega) p.W))
  obtain ⟨c0, c1, c2, c3, c4, c5, c6, c7⟩ := ha
  have o0 : ∀ p : Over w, p.W.cell? a = some (.int .i16 b.c) := Over.cell c0
  have o4 : ∀ p : Over w, p.W.cell? ⟨a.block, a.off + 4, none⟩ = some (.int .i16 b.v) := Over.cell c4
  have ocv : ∀ (p : Over w) (c : Nat), (convert 99 9 (.slice (some ⟨a.block, a.off + 1, none⟩) 3 c)).run Tryd.prog p.W = .ok (.string (bS (mkB b))) p.W := fun p c => mk_convA (HBX.out.below p.h) c
  have x1 := dgS_le (n := b.c) (by have := HV.out.c; omega) (by have := HV.out.c; omega)
  have x2 := dgS_le (n := b.v) (by have := HV.out.v; omega) (by have := HV.out.v; omega)
  have x3 := mkS_size b
  have s1 : ¬ (9223372036854775807 < (bS (dg b.c)).size + 1) := by omega
  have s2 : ¬ (9223372036854775807 < (bS (dg b.c)).size + 1 + (bS (mkB b)).size) := by omega
  have s3 : ¬ (9223372036854775807 < (bS (dg b.c)).size + 1 + (bS (mkB b)).size + 1) := by omega
  have s4 : ¬ (9223372036854775807 < (bS (dg b.c)).size + 1 + (bS (mkB b)).size + 1 + (bS (dg b.v)).size) := by omega
  have s5 : ¬ (9223372036854775807 < (bS (dg b.c)).size + 1 + (bS (mkB b)).size + 1 + (bS (dg b.v)).size + 1) := by omega
  have w0 : IntKind.i64.wrap b.c = b.c := by rw [IntKind.wrap_i64]; have := HV.out.c; omega
  have w4 : IntKind.i64.wrap b.v = b.v := by rw [IntKind.wrap_i64]; have := HV.out.v; omega
  have w5 : IntKind.i64.wrap b.wd = b.wd := by rw [IntKind.wrap_i64]; have := HV.out.wd; omega
  have w6 : IntKind.i64.wrap b.h = b.h := by rw [IntKind.wrap_i64]; have := HV.out.h; omega
  have w7 : IntKind.i64.wrap b.wt = b.wt := by rw [IntKind.wrap_i64]; have := HV.out.wt; omega
  have E1 := Aside0.mk (show bS (dg b.c) ++ { data := #[32] } ++ bS (mkB b) ++ { data := #[32] } ++ bS (dg b.v) ++ { data := #[32] } = bS (dg b.c ++ [32] ++ mkB b ++ [32] ++ dg b.v ++ [32]) by
    rw [show ({ data := #[32] } : ByteArray) = bS [32] from rfl, bS_append, bS_append, bS_append, bS_append, bS_append])
  clear c0 c1 c2 c3 c4 c5 c6 c7 hv x3
  go_enter Tryd.func44, Tryd.ntmps44
  go_wp2_with fail
  refine region_over (by kernel_rfl) (by kernel_rfl) ?_
  repeat (go_big_quiet_step (first | (go_at_call 81; exact HD.out _ (by first | exact ⟨HV.out.c.1, by have := HV.out.c; omega⟩ | exact ⟨by have := HV.out.v; omega, by have := HV.out.v; omega⟩) _ _)))
  refine wpQuiet_nil ?_
  intro wq hw'
  have hq_wq := over_out hw'
  clear hw'
  rw [E1.out]
  have HB1 := Aside0.mk hq_wq
  clear o0 o4 ocv x1 x2 s1 s2 s3 s4 s5
  obtain ⟨c0, c1, c2, c3, c4, c5, c6, c7⟩ := HBX.out.below HB1.out
  have o5 : ∀ p : Over wq, p.W.cell? ⟨a.block, a.off + 5, none⟩ = some (.int .i16 b.wd) := Over.cell c5
  have o6 : ∀ p : Over wq, p.W.cell? ⟨a.block, a.off + 6, none⟩ = some (.int .i16 b.h) := Over.cell c6
  have o7 : ∀ p : Over wq, p.W.cell? ⟨a.block, a.off + 7, none⟩ = some (.int .i16 b.wt) := Over.cell c7
  clear c0 c1 c2 c3 c4 c5 c6 c7 hq_wq
  obtain ⟨z, hz⟩ : ∃ z, dg b.c ++ [32] ++ mkB b ++ [32] ++ dg b.v ++ [32] = z := ⟨_, rfl⟩
  have HZ := Aside0.mk hz
  have hzl : (bS z).size ≤ 50 := by
    rw [← hz, bS_size]
    have h1 := dg_len (n := b.c) 4 (by have := HV.out.c; omega) (by have := HV.out.c; omega)
    have h2 := dg_len (n := b.v) 4 (by have := HV.out.v; omega) (by have := HV.out.v; omega)
    simp only [List.length_append, List.length_cons, List.length_nil, mkB]
    omega
  rw [hz]
  clear hz
  have x1 := dgS_le (n := b.wd) (by have := HV.out.wd; omega) (by have := HV.out.wd; omega)
  have x2 := dgS_le (n := b.h) (by have := HV.out.h; omega) (by have := HV.out.h; omega)
  have x3 := dgS_le (n := b.wt) (by have := HV.out.wt; omega) (by have := HV.out.wt; omega)
  have s1 : ¬ (9223372036854775807 < (bS z).size + (bS (dg b.wd)).size) := by omega
  have s2 : ¬ (9223372036854775807 < (bS z).size + (bS (dg b.wd)).size + 1) := by omega
  have s3 : ¬ (9223372036854775807 < (bS z).size + (bS (dg b.wd)).size + 1 + (bS (dg b.h)).size) := by omega
  have s4 : ¬ (9223372036854775807 < (bS z).size + (bS (dg b.wd)).size + 1 + (bS (dg b.h)).size + 1) := by omega
  have s5 : ¬ (9223372036854775807 < (bS z).size + (bS (dg b.wd)).size + 1 + (bS (dg b.h)).size + 1 + (bS (dg b.wt)).size) := by omega
  have E2 := Aside0.mk (show bS z ++ bS (dg b.wd) ++ { data := #[120] } ++ bS (dg b.h) ++ { data := #[32] } ++ bS (dg b.wt) = bS (bkT b) by
    rw [show ({ data := #[32] } : ByteArray) = bS [32] from rfl, show ({ data := #[120] } : ByteArray) = bS [120] from rfl, bS_append, bS_append, bS_append, bS_append, bS_append, ← HZ.out, bkT_eq])
  go_wp2_with fail
  refine region_over (by kernel_rfl) (by kernel_rfl) ?_
  repeat (go_big_quiet_step (first | (go_at_call 81; exact HD.out _ (by first | exact ⟨by have := HV.out.wd; omega, by have := HV.out.wd; omega⟩ | exact ⟨by have := HV.out.h; omega, by have := HV.out.h; omega⟩ | exact ⟨by have := HV.out.wt; omega, by have := HV.out.wt; omega⟩) _ _)))
  refine wpQuiet_nil ?_
  intro wr hw'
  have hq_wr := over_out hw'
  clear hw'
  rw [E2.out]
  go_wp2
  go_ret
  exact ⟨rfl, bstep HB1.out hq_wr⟩
end Go.Proofs.YtgibcacciedobaaDoor
