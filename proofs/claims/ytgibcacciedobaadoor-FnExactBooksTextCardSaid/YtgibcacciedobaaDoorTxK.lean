/- The text of a list of books: the program's. -/
import Derived.Test.YtgibcacciedobaaDoorTxW
import Derived.Test.YtgibcacciedobaaDoorTxN
import Derived.Test.YtgibcacciedobaaDoorShelf
import Derived.StillTailTactics
import Derived.Still
import Derived.Deep.QuietTactic
import Derived.BigQuiet
import Derived.Shelf.Strings.BuilderK
import Derived.Shelf.Strings.OnBuilder
namespace Go.Proofs.YtgibcacciedobaaDoor
open Go.RowKit Go.Proofs.YtgibcacciedobaaDoorW.PrintWords Go.Proofs.YtgibcacciedobaaDoorW.PrintMore
set_option linter.unusedVariables false
set_option linter.unusedSimpArgs false
set_option maxRecDepth 100000

theorem bdF_below {T e : TypeId} {B b : Nat} {p : Value} {bs : List Value} {w w1 : World} (h : Go.Lib.BuilderAtF T e B b p bs w) (hb : Below w.heap.size w w1) : Go.Lib.BuilderAtF T e B b p bs w1 := by
  obtain ⟨h0, v, h1, ⟨h2, h3⟩, h4⟩ := h
  refine ⟨h0, v, blk_below h1 hb, ⟨h2, ?_⟩, h4⟩
  rcases h3 with h3 | ⟨g, cap, cur, fz, a1, a2, a3, a4⟩
  · exact .inl h3
  · exact .inr ⟨g, cap, cur, fz, a1, a2, blk_below a3 hb, a4⟩
theorem isF_below {T e : TypeId} {B b : Nat} {bs : List Value} {w w1 : World} (h : Go.Lib.IsBuilderF T e B b bs w) (hb : Below w.heap.size w w1) : Go.Lib.IsBuilderF T e B b bs w1 :=
  h.elim (fun h => .inl (bdF_below h hb)) (fun h => .inr (bdF_below h hb))
theorem writeS_c (B b : Nat) (l : Bs) (s : ByteArray) (w : World) (h : Go.Lib.IsBuilderF 107 5 B b (Go.Lib.byteCells l) w) (hlen : l.length + s.size ≤ 100000) (hBw : B ≤ w.heap.size) :
    Calls Tryd.prog 87 #[.pointer (some ⟨b, 0, none⟩), .string s] w fun e w' => e = .returned (.tuple #[.int .i64 s.size, .nilIface]) ∧ Go.Lib.IsBuilderF 107 5 B b (Go.Lib.byteCells (l ++ s.data.toList)) w' ∧ Below B w w' :=
  (Any.Builder_WriteString_k (ρ := Tryd.lays156_ren) { Tryd.lays156 with } Tryd.Builder_Extra_156 B b (Go.Lib.byteCells l) s w h (by rw [Go.Lib.byteCells_length]; omega) hBw).mono fun e w' ⟨h1, h2, h3, _⟩ =>
    ⟨h1, .inr (by rw [Go.Lib.byteCells_append, ← Go.Lib.strCells_eq]; exact h2), h3⟩
theorem lnT_take {L : List Bk} {k : Nat} {b : Bk} (hx : L[k]? = some b) : lnT ((L.take (k + 1)).map bkT) = lnT ((L.take k).map bkT) ++ (bkT b ++ [10]) := by
  rw [take_snoc hx, List.map_append]
  exact lnT_snoc _ _
set_option maxHeartbeats 4000000 in
theorem linesText_c (A : Option Addr) (c : Nat) (L : List Bk) (hn : L.length ≤ 60) (hv : ∀ b, b ∈ L → vBook b = true) (w : World) (hL : kBk.C w A L.length L) (ht : Tab w) :
    Calls Tryd.prog 51 #[.slice A L.length c, .func (.func 47) #[] #[]] w (Ret w (.string (bS (lsT L)))) := by
  have hm := Kd.C_max hL
  have HL := Aside0.mk hL
  have HV := Aside0.mk hv
  have HT := Aside0.mk ht
  have hfn : Fun Tryd.prog 47 := ⟨_, Tryd.func47, rfl, rfl⟩
  have hcf := hfn.run
  have hB0 := Go.Lib.IsBuilderF.of (Go.Lib.fresh_isBuilder 107 5 w)
  have hb0 : Below w.heap.size w (w.alloc (.cells #[.pointer none, .slice none 0 0] 107)) := balloc (Below.refl _ _) _
  have HI0 := Aside0.mk hB0
  have HB0 := Aside0.mk hb0
  clear hL hv ht hfn hB0 hb0
  go_enter Tryd.func51, Tryd.ntmps51
  go_wp2_with fail
  go_loopg [10] L.length (fun gk v10 wr => ∃ k : Nat, k + gk = L.length ∧ v10 = .int .i64 k ∧ Aside0 (Go.Lib.IsBuilderF 107 5 w.heap.size w.heap.size (Go.Lib.byteCells (lnT ((L.take k).map bkT))) wr) ∧ Aside0 (Below w.heap.size w wr))
  case atStart => exact ⟨0, by omega, rfl, HI0, HB0⟩
  case round =>
    clear HI0 HB0
    obtain ⟨k, hk, rfl, HI, hb⟩ := hrel
    have HK := Aside0.mk hk
    by_cases hlt : k < L.length
    · obtain ⟨ad, b, rfl, hbk, ha⟩ := at_bk' (Kd.C_below HL.out hb.out) k (by omega)
      have hvb := HV.out b (mem_of hbk.out)
      have HC := Aside0.mk (fun W h => bookText_c b (vB1 hvb) W h)
      have hlen := bkT_len (vB1 hvb)
      have HNX := Aside0.mk (lnT_take hbk.out)
      have hpre : (lnT ((L.take k).map bkT)).length ≤ 1860 := lsT_len (L := L.take k) (by rw [List.length_take]; omega) (fun x hx => HV.out x (List.mem_of_mem_take hx))
      have HPRE := Aside0.mk hpre
      have HLEN := Aside0.mk hlen
      have s1 : ¬ (9223372036854775807 < (bS (bkT b)).size + 1) := by rw [bS_size]; omega
      have i0 : (0 : Int) ≤ (k : Int) := by omega
      have i1 : (k : Int) < (L.length : Int) := by omega
      have HW2 := Aside0.mk (show Below wr.heap.size wr (wr.alloc (.cells #[.int .i16 b.c, .int .u8 b.m0, .int .u8 b.m1, .int .u8 b.m2, .int .i16 b.v, .int .i16 b.wd, .int .i16 b.h, .int .i16 b.wt] 27)) from balloc (Below.refl _ _) _)
      simp only [Bk.val] at HC
      obtain ⟨c0, c1, c2, c3, c4, c5, c6, c7⟩ := ha
      clear hk hvb hlen hpre
      go_wp2_with fail
      clear c0 c1 c2 c3 c4 c5 c6 c7
      refine (HC.out _ (HT.out.below (bstep hb.out HW2.out))).mono ?_; rintro _ w3 ⟨rfl, hb3⟩
      have HB3 := Aside0.mk (bstep hb.out (bstep HW2.out hb3))
      have HI3 := Aside0.mk (isF_below HI.out (bstep HW2.out hb3))
      clear hb3 HW2
      have hsz : (lnT ((L.take k).map bkT)).length + (bS (bkT b) ++ ({ data := #[10] } : ByteArray)).size ≤ 100000 := by
        rw [ByteArray.size_append, bS_size, show (ByteArray.size { data := #[10] }) = 1 from rfl]
        have := HPRE.out
        have := HLEN.out
        omega
      have HWR := Aside0.mk (writeS_c w.heap.size w.heap.size (lnT ((L.take k).map bkT)) (bS (bkT b) ++ { data := #[10] }) w3 HI3.out hsz HB3.out.size)
      clear hsz
      go_wp2_with fail
      refine HWR.out.mono ?_; rintro _ w4 ⟨rfl, hI4, hb4⟩
      have HB4 := Aside0.mk (HB3.out.trans hb4)
      have HI4 := Aside0.mk (show Go.Lib.IsBuilderF 107 5 w.heap.size w.heap.size (Go.Lib.byteCells (lnT ((L.take (k + 1)).map bkT))) w4 by
        rw [HNX.out]
        have e : (bS (bkT b) ++ { data := #[10] } : ByteArray).data.toList = bkT b ++ [10] := by rw [show ({ data := #[10] } : ByteArray) = bS [10] from rfl, bS_append, bS_toList]
        rw [e] at hI4
        exact hI4)
      clear hb4 hI4
      go_wp2
      go_roundg (gk - 1)
      case measure => have := HK.out; omega
      case rel => exact ⟨k + 1, by have := HK.out; omega, by go_num, HI4, HB4⟩
    · have HS := Aside0.mk (show L.take k = L from List.take_of_length_le (by omega))
      rw [HS.out] at HI
      clear hk
      go_wp2_with fail
      refine (Tryd.Builder_String_any_k w.heap.size w.heap.size (lsT L) wr HI.out hb.out.size).mono ?_; rintro _ w5 ⟨rfl, _, hb5, _⟩
      go_wp2
      go_ret
      exact ⟨rfl, hb.out.trans hb5⟩
end Go.Proofs.YtgibcacciedobaaDoor
