/- A case's text: the reference's. -/
import Derived.Test.YtgibcacciedobaaDoorTxG
import Derived.StillTailTactics
import Derived.Still
import Derived.Deep.QuietTactic
import Derived.BigQuiet
namespace Go.Proofs.YtgibcacciedobaaDoor
open Go.RowKit Go.Proofs.YtgibcacciedobaaDoorW.PrintWords Go.Proofs.YtgibcacciedobaaDoorW.PrintMore
set_option linter.unusedVariables false
set_option linter.unusedSimpArgs false
set_option maxRecDepth 100000

/-- The text of a case up to some heights. -/
def csP (k : Cs) (n : Nat) : Bs := joinL 32 (dg k.wd :: dg k.ld :: (k.hs.take n).map dg)
theorem csP_end (k : Cs) : csP k k.hs.length = csT k := by unfold csP csT csWs; rw [List.take_length]
theorem csP_zero (k : Cs) : csP k 0 = dg k.wd ++ 32 :: dg k.ld := rfl
theorem csP_next {k : Cs} {n : Nat} {x : Int} (hx : k.hs[n]? = some x) : csP k (n + 1) = csP k n ++ 32 :: dg x := by
  unfold csP
  rw [take_snoc hx, List.map_append]
  exact joinL_snoc 32 (dg k.wd :: dg k.ld :: (k.hs.take n).map dg) (dg x) (List.cons_ne_nil _ _)
theorem csP_len {k : Cs} (h : VC1 k) (n : Nat) : (csP k n).length ≤ 100 := by
  have h1 : ∀ w, w ∈ (dg k.wd :: dg k.ld :: (k.hs.take n).map dg) → w.length ≤ 6 := by
    intro w hw
    rcases List.mem_cons.1 hw with rfl | hw
    · exact dg_len 5 (by have := h.wd; omega) (by have := h.wd; omega)
    · rcases List.mem_cons.1 hw with rfl | hw
      · exact dg_len 5 (by have := h.ld; omega) (by have := h.ld; omega)
      · obtain ⟨x, hx, rfl⟩ := List.mem_map.1 hw
        have := h.h x (List.mem_of_mem_take hx)
        exact dg_len 5 (by omega) (by omega)
  have h2 := joinL_len (c := 32) h1
  have := h.n
  unfold csP
  simp only [List.length_cons, List.length_map, List.length_take] at h2 ⊢
  omega
set_option maxHeartbeats 4000000 in
theorem l02Text_c (k : Cs) (A : Option Addr) (c : Nat) (hv : VC1 k) (a : Addr) (w : World) (ha : CsAt w a k A c) (hC : (Kd.int .i16).C w A k.hs.length k.hs) : Calls Tryd.prog 65 #[.pointer (some a)] w (Ret w (.string (bS (csT k)))) := by
  have hm := Kd.C_max hC
  have HV := Aside0.mk hv
  have HX := Aside0.mk ha
  have HC := Aside0.mk hC
  have HD := Aside0.mk (fun (n : Int) (h : 0 ≤ n ∧ n ≤ 2147483647) (W : World) (p : Over W) => Calls.over_of (Decimal_c (n.toNat + 1) n (by omega) h.1 (by omega) p.W))
  obtain ⟨c0, c1, c2⟩ := ha
  have o0 : ∀ p : Over w, p.W.cell? a = some (.int .i16 k.wd) := Over.cell c0
  have o1 : ∀ p : Over w, p.W.cell? ⟨a.block, a.off + 1, none⟩ = some (.int .i32 k.ld) := Over.cell c1
  have x1 : (bS (dg k.wd)).size ≤ 6 := by rw [bS_size]; exact dg_len 5 (by have := HV.out.wd; omega) (by have := HV.out.wd; omega)
  have x2 : (bS (dg k.ld)).size ≤ 6 := by rw [bS_size]; exact dg_len 5 (by have := HV.out.ld; omega) (by have := HV.out.ld; omega)
  have s1 : ¬ (9223372036854775807 < (bS (dg k.wd)).size + 1) := by omega
  have s2 : ¬ (9223372036854775807 < (bS (dg k.wd)).size + 1 + (bS (dg k.ld)).size) := by omega
  have w0 : IntKind.i64.wrap k.wd = k.wd := by rw [IntKind.wrap_i64]; have := HV.out.wd; omega
  have w1' : IntKind.i64.wrap k.ld = k.ld := by rw [IntKind.wrap_i64]; have := HV.out.ld; omega
  have E1 := Aside0.mk (show bS (dg k.wd) ++ { data := #[32] } ++ bS (dg k.ld) = bS (csP k 0) by
    rw [show ({ data := #[32] } : ByteArray) = bS [32] from rfl, bS_append, bS_append, csP_zero, List.append_assoc]; rfl)
  clear c0 c1 c2 hv hC
  go_enter Tryd.func65, Tryd.ntmps65
  go_wp2_with fail
  refine region_over (by kernel_rfl) (by kernel_rfl) ?_
  repeat (go_big_quiet_step (first | (go_at_call 81; exact HD.out _ (by first | exact ⟨by have := HV.out.wd; omega, by have := HV.out.wd; omega⟩ | exact ⟨by have := HV.out.ld; omega, by have := HV.out.ld; omega⟩) _ _)))
  refine wpQuiet_nil ?_
  intro wq hw'
  have hq_wq := over_out hw'
  clear hw'
  rw [E1.out]
  have HB1 := Aside0.mk hq_wq
  clear o0 o1 x1 x2 s1 s2 hq_wq
  go_wp2_with fail
  go_loopg [3, 4] k.hs.length (fun gk v3 v4 wr => ∃ s : Nat, s + gk = k.hs.length ∧ v4 = .int .i64 s ∧ v3 = .string (bS (csP k s)) ∧ Aside0 (Below w.heap.size w wr))
  case atStart => exact ⟨0, by omega, rfl, rfl, HB1⟩
  case round =>
    clear HB1
    obtain ⟨s, hk, rfl, rfl, hb⟩ := hrel
    have HK := Aside0.mk hk
    obtain ⟨c0, c1, c2⟩ := HX.out.below hb.out
    by_cases hlt : s < k.hs.length
    · obtain ⟨ad, x, rfl, hbk, hx⟩ := at_int' (Kd.C_below HC.out hb.out) s (by omega)
      have hr := HV.out.h x (mem_of hbk.out)
      have HDD := Aside0.mk (Decimal_c (x.toNat + 1) x (by omega) (by omega) (by omega) wr)
      have hwx : IntKind.i64.wrap x = x := by rw [IntKind.wrap_i64]; omega
      have hs := csP_len HV.out s
      have HT := Aside0.mk (csP_next hbk.out)
      have hd := dg_len (n := x) 4 (by omega) (by omega)
      generalize csP k s = z at hs HT ⊢
      have s1 : ¬ (9223372036854775807 < 1 + (bS (dg x)).size) := by rw [bS_size]; omega
      have s2 : ¬ (9223372036854775807 < (bS z).size + (1 + (bS (dg x)).size)) := by rw [bS_size, bS_size]; omega
      have HS := Aside0.mk (show bS z ++ (({ data := #[32] } : ByteArray) ++ bS (dg x)) = bS (csP k (s + 1)) by rw [HT.out, show ({ data := #[32] } : ByteArray) = bS [32] from rfl, bS_append, bS_append]; rfl)
      have i1 : (0 : Int) ≤ (s : Int) := by omega
      have i2 : (s : Int) < (k.hs.length : Int) := by omega
      clear hk hs hd hr
      go_wp2_with (go_at_call 81; refine HDD.out.mono ?_; rintro _ w1 ⟨rfl, hb1⟩)
      go_roundg (gk - 1)
      case measure => have := HK.out; omega
      case rel => exact ⟨s + 1, by have := HK.out; omega, by go_num, by rw [HS.out], ⟨bstep hb.out hb1⟩⟩
    · have HT := Aside0.mk (show csP k s = csT k by rw [show s = k.hs.length by omega, csP_end])
      clear hk
      go_wp2
      go_ret
      exact ⟨ret_str (by rw [HT.out]), hb.out⟩
end Go.Proofs.YtgibcacciedobaaDoor
