/- What a number's digits want of the world; the digits that the program and the reference write. -/
import Derived.Test.YtgibcacciedobaaDoorTxP
import Derived.Test.YtgibcacciedobaaDoorTail
import Derived.Test.YtgibcacciedobaaDoorBook
import Derived.Test.YtgibcacciedobaaDoorShelf
import Derived.Lib.LaidTab
import Derived.Lib.SmallJoins
import Derived.StillTailTactics
import Derived.Still
import Derived.Deep.QuietTactic
import Derived.BigQuiet
import Derived.Deep.RegionHeld3
import Derived.Deep.RegionWith
namespace Go.Proofs.YtgibcacciedobaaDoor
open Go.RowKit Go.Proofs.YtgibcacciedobaaDoorW.PrintWords Go.Proofs.YtgibcacciedobaaDoorW.PrintMore
set_option linter.unusedVariables false
set_option linter.unusedSimpArgs false
set_option maxRecDepth 100000

/-- The library's table of powers lies as its text lays it. -/
def Tab (w : World) : Prop := Lib.TabIs Tryd.prog w "internal/strconv.uint64pow10" .u64 Lib.pow10Tab
theorem gPow : Tryd.prog.globalNamed "internal/strconv.uint64pow10" = some 1 := by kernel_rfl
theorem Tab.below {w w1 : World} (h : Tab w) (hb : Below w.heap.size w w1) : Tab w1 := Go.Joins.var_stays gPow h hb (Nat.le_refl _)
theorem bgrow (w : World) (k : Nat) (os : Array Obj) : Below w.heap.size w (Go.Sort.grow (w.drewN k) os) :=
  ⟨rfl, rfl, rfl, by show w.heap.size ≤ (w.heap ++ os).size; simp, fun j hj => by show (w.heap ++ os)[j]? = w.heap[j]?; exact Array.getElem?_append_left hj⟩
theorem fmt_c (n : Int) (h0 : 0 ≤ n) (h1 : n ≤ 9223372036854775807) (w : World) (ht : Tab w) : Calls Tryd.prog 97 #[.int .i64 n, .int .i64 10] w (Ret w (.string (bS (dg n)))) :=
  (Tryd.strconv_FormatInt_10 n (by omega) h1 w ht).mono fun e w' ⟨he, k, os, hw⟩ => ⟨by rw [he, itoa_dg h0]; rfl, by rw [hw]; exact bgrow w k os⟩
theorem dec16_c (n : Int) (h0 : 0 ≤ n) (h1 : n ≤ 32767) (w : World) (ht : Tab w) : Calls Tryd.prog 85 #[.int .i16 n] w (Ret w (.string (bS (dg n)))) := by
  have HF := Aside0.mk (fmt_c n h0 (by omega) w ht)
  have hw : IntKind.i64.wrap n = n := by rw [IntKind.wrap_i64]; omega
  clear ht
  go_enter Tryd.func85, Tryd.ntmps85
  go_wp2_with (go_at_call 97; refine HF.out.mono ?_; rintro _ w1 ⟨rfl, hb1⟩)
  go_ret
  exact ⟨rfl, hb1⟩
theorem ret_str {a b : ByteArray} (h : a = b) : Ending.returned (.string a) = .returned (.string b) := by rw [h]
/-- One byte's text. -/
theorem oneC (W : World) (g : Nat) (v : Int) (h : W.cell? ⟨g, 0, none⟩ = some (.int .u8 v)) : (Kd.int .u8).C W (some ⟨g, 0, none⟩) [v].length [v] := by
  refine ⟨rfl, by simp, fun _ => ⟨_, rfl, fun j p hj => ?_⟩⟩
  match j, hj with
  | 0, hj => cases hj; exact ⟨_, rfl, rfl, fun i u hu => by match i, hu with | 0, hu => cases hu; simpa [Addr.add] using h⟩
theorem one_conv {W : World} {g : Nat} {v : Int} (h : W.cell? ⟨g, 0, none⟩ = some (.int .u8 v)) (c : Nat) : (convert 99 9 (.slice (some ⟨g, 0, none⟩) 1 c)).run Tryd.prog W = .ok (.string (bS [UInt8.ofNat v.toNat])) W :=
  Kd.C_string (xs := [v]) Tryd.underlying99 Tryd.underlying5 Tryd.underlying9 (oneC W g v h)
theorem wrap_dig {k : Int} (h0 : 0 ≤ k) (h1 : k < 10) : IntKind.u8.wrap (48 + k) = 48 + k := by simp only [IntKind.wrap, IntKind.bits, IntKind.signed, Bool.false_and, Bool.false_eq_true, if_false]; omega
set_option maxHeartbeats 1000000 in
theorem decimal_small (n : Int) (h0 : 0 ≤ n) (h1 : n < 10) (w : World) : Calls Tryd.prog 81 #[.int .i64 n] w (Ret w (.string (bS (dg n)))) := by
  have hr : Int.tmod n 10 = n := by rw [Int.tmod_eq_emod_of_nonneg h0]; omega
  have hd : dg n = [UInt8.ofNat (48 + n).toNat] := by
    unfold dg
    rw [Go.Lib.decDigits, dif_pos (by omega)]
    congr 2
    omega
  have hcv := fun (c : Nat) => one_conv (W := w.alloc (.cells #[.int .u8 (48 + n)] 5)) (g := w.heap.size) (v := 48 + n) ((blk_cell (blk_new w _) 0).trans rfl) c
  have hw1 := wrap_dig h0 h1
  have hw2 : IntKind.i64.wrap (48 + n) = 48 + n := by rw [IntKind.wrap_i64]; omega
  rw [hd]
  clear hd
  go_enter Tryd.func81, Tryd.ntmps81
  go_wp2
  go_ret
  exact ⟨rfl, balloc (Below.refl _ _) _⟩
theorem dg_step {n : Int} (h : 10 ≤ n) : dg n = dg (n / 10) ++ [UInt8.ofNat (48 + n % 10).toNat] := by
  unfold dg
  conv => lhs; rw [Go.Lib.decDigits, dif_neg (by omega)]
  have e1 : n.toNat / 10 = (n / 10).toNat := by omega
  have e2 : 48 + n.toNat % 10 = (48 + n % 10).toNat := by omega
  rw [e1, e2]
theorem bS_size (a : Bs) : (bS a).size = a.length := by simp [bS, ByteArray.size]
theorem conv_new (v : Int) (W : World) (c : Nat) : (convert 99 9 (.slice (some ⟨W.heap.size, 0, none⟩) 1 c)).run Tryd.prog (W.alloc (.cells #[.int .u8 v] 5)) = .ok (.string (bS [UInt8.ofNat v.toNat])) (W.alloc (.cells #[.int .u8 v] 5)) := one_conv ((blk_cell (blk_new W _) 0).trans rfl) c
set_option maxHeartbeats 4000000 in
theorem Decimal_c : ∀ (k : Nat) (n : Int), n.toNat < k → 0 ≤ n → n ≤ 9223372036854775807 → ∀ w : World, Calls Tryd.prog 81 #[.int .i64 n] w (Ret w (.string (bS (dg n))))
  | 0, _, h, _, _, _ => absurd h (Nat.not_lt_zero _)
  | k + 1, n, hk, h0, hm, w => by
    by_cases h10 : n < 10
    · exact decimal_small n h0 h10 w
    · have HI := Aside0.mk (fun W => Decimal_c k (n / 10) (by omega) (by omega) (by omega) W)
      have hq : Int.tdiv n 10 = n / 10 := Int.tdiv_eq_ediv_of_nonneg h0
      have hr : Int.tmod n 10 = n % 10 := Int.tmod_eq_emod_of_nonneg h0
      have hw1 := wrap_dig (k := n % 10) (by omega) (by omega)
      have hw2 : IntKind.i64.wrap (48 + n % 10) = 48 + n % 10 := by rw [IntKind.wrap_i64]; omega
      have hw3 : IntKind.i64.wrap (n / 10) = n / 10 := by rw [IntKind.wrap_i64]; omega
      have HD := Aside0.mk (dg_step (n := n) (by omega))
      have hcv4 := fun (c : Nat) => one_conv (W := w.drew.alloc (.cells #[.int .u8 (48 + n % 10)] 5)) (g := w.heap.size) (v := 48 + n % 10) ((blk_cell (blk_new w.drew (.cells #[.int .u8 (48 + n % 10)] 5)) 0).trans rfl) c
      have hcv := conv_new (48 + n % 10)
      have hcv2 := fun (c : Nat) => one_conv (W := (w.alloc (.cells #[.int .u8 (48 + n % 10)] 5)).drew) (g := w.heap.size) (v := 48 + n % 10) ((blk_cell (blk_new w (.cells #[.int .u8 (48 + n % 10)] 5)) 0).trans rfl) c
      have hsz : (bS (dg (n / 10))).size + (bS [UInt8.ofNat (48 + n % 10).toNat]).size ≤ 9223372036854775807 := by rw [bS_size, bS_size]; have := dg_len (n := n / 10) 18 (by omega) (by omega); simp only [List.length_singleton]; omega
      have hsz2 := Nat.not_lt.2 hsz
      clear hk hm
      go_enter Tryd.func81, Tryd.ntmps81
      go_wp2_with fail
      go_region_with (first | (go_at_call 81; refine (HI.out _).mono ?_; rintro _ w2 ⟨rfl, hq2⟩; try (have hcv3 := fun (c : Nat) => one_conv (W := w2) (g := w.heap.size) (v := 48 + n % 10) ((hq2.cell (p := ⟨w.heap.size, 0, none⟩) (by simp)).trans ((blk_cell (blk_new w (.cells #[.int .u8 (48 + n % 10)] 5)) 0).trans rfl)) c)))
      all_goals
        (have HQ := Aside0.mk hq2
         clear hcv hcv2 hcv4 hsz hq2
         go_wp2_with fail
         go_ret
         refine ⟨ret_str (a := bS (dg (n / 10)) ++ bS [UInt8.ofNat (48 + n % 10).toNat]) (by rw [HD.out, ← bS_append]), ?_⟩
         first | exact HQ.out | exact bstep (bdrew (Below.refl _ _)) HQ.out | exact balloc (bstep (bdrew (Below.refl _ _)) HQ.out) _ | exact bstep (bdrew (balloc (Below.refl _ _) _)) HQ.out)
end Go.Proofs.YtgibcacciedobaaDoor
