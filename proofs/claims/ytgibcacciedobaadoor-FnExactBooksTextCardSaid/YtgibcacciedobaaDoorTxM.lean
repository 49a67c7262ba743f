/- The text of a list of books: the reference's; BooksText of both. -/
import Derived.Test.YtgibcacciedobaaDoorTxK
import Derived.Test.YtgibcacciedobaaDoorValid
import Derived.StillTailTactics
import Derived.Still
import Derived.Deep.QuietTactic
import Derived.BigQuiet
namespace Go.Proofs.YtgibcacciedobaaDoor
open Go.RowKit Go.Proofs.YtgibcacciedobaaDoorW.PrintWords Go.Proofs.YtgibcacciedobaaDoorW.PrintMore
set_option linter.unusedVariables false
set_option linter.unusedSimpArgs false
set_option maxRecDepth 100000

set_option maxHeartbeats 4000000 in
theorem l01ListText_c (A : Option Addr) (c : Nat) (L : List Bk) (hn : L.length ≤ 60) (hv : ∀ b, b ∈ L → vBook b = true) (w : World) (hL : kBk.C w A L.length L) :
    Calls Tryd.prog 49 #[.slice A L.length c] w (Ret w (.string (bS (lsT L)))) := by
  have hm := Kd.C_max hL
  have HL := Aside0.mk hL
  have HV := Aside0.mk hv
  clear hL hv
  go_enter Tryd.func49, Tryd.ntmps49
  go_wp2_with fail
  go_loopg [3, 4] L.length (fun gk v3 v4 wr => ∃ k : Nat, k + gk = L.length ∧ v4 = .int .i64 k ∧ v3 = .string (bS (lnT ((L.take k).map bkT))) ∧ Aside0 (Below w.heap.size w wr))
  case atStart => exact ⟨0, by omega, rfl, rfl, ⟨Below.refl _ _⟩⟩
  case round =>
    obtain ⟨k, hk, rfl, rfl, hb⟩ := hrel
    have HK := Aside0.mk hk
    by_cases hlt : k < L.length
    · obtain ⟨ad, b, rfl, hbk, ha⟩ := at_bk' (Kd.C_below HL.out hb.out) k (by omega)
      have hvb := HV.out b (mem_of hbk.out)
      have HC := Aside0.mk (l01Text_c b (vB1 hvb) _ wr ha)
      have hlen := bkT_len (vB1 hvb)
      have HNX := Aside0.mk (lnT_take hbk.out)
      have hpre : (lnT ((L.take k).map bkT)).length ≤ 1860 := lsT_len (L := L.take k) (by rw [List.length_take]; omega) (fun x hx => HV.out x (List.mem_of_mem_take hx))
      generalize lnT ((L.take k).map bkT) = z at HNX hpre ⊢
      have s1 : ¬ (9223372036854775807 < (bS (bkT b)).size + 1) := by rw [bS_size]; omega
      have s2 : ¬ (9223372036854775807 < (bS z).size + ((bS (bkT b)).size + 1)) := by rw [bS_size, bS_size]; omega
      have HS := Aside0.mk (show bS z ++ (bS (bkT b) ++ ({ data := #[10] } : ByteArray)) = bS (lnT ((L.take (k + 1)).map bkT)) by rw [HNX.out, show ({ data := #[10] } : ByteArray) = bS [10] from rfl, bS_append, bS_append])
      have i0 : (0 : Int) ≤ (k : Int) := by omega
      have i1 : (k : Int) < (L.length : Int) := by omega
      clear hk hvb hlen hpre ha
      go_wp2_with (go_at_call 44; refine HC.out.mono ?_; rintro _ w1 ⟨rfl, hb1⟩)
      go_roundg (gk - 1)
      case measure => have := HK.out; omega
      case rel => exact ⟨k + 1, by have := HK.out; omega, by go_num, by rw [HS.out], ⟨bstep hb.out hb1⟩⟩
    · have HS := Aside0.mk (show L.take k = L from List.take_of_length_le (by omega))
      clear hk
      go_wp2
      go_ret
      exact ⟨ret_str (by rw [HS.out]; rfl), hb.out⟩
def tBs (L : List Bk) : ByteArray := if vBooks L = true then bS (lsT L) else ⟨#[]⟩
theorem vBooks_all {L : List Bk} (h : vBooks L = true) : L.length ≤ 60 ∧ ∀ b, b ∈ L → vBook b = true := by
  unfold vBooks at h
  simp only [Bool.and_eq_true, decide_eq_true_eq, List.all_eq_true] at h
  exact h
set_option maxHeartbeats 2000000 in
theorem BooksText_c (A : Option Addr) (c : Nat) (L : List Bk) (w : World) (hL : kBk.C w A L.length L) (ht : Tab w) : Calls Tryd.prog 17 #[.slice A L.length c] w (Ret w (.string (tBs L))) := by
  have HI := Aside0.mk (ValidBooks_c A c L w hL)
  have HE := Aside0.mk hL
  have HT := Aside0.mk ht
  clear ht hL
  cases hv : vBooks L
  · have HV := Aside0.mk (show tBs L = ⟨#[]⟩ by unfold tBs; rw [hv]; rfl)
    rw [hv] at HI
    clear hv
    go_enter Tryd.func17, Tryd.ntmps17
    go_wp2_with (go_at_call 50; refine HI.out.mono ?_; rintro _ w2 ⟨rfl, hb2⟩)
    go_ret
    exact ⟨ret_str HV.out.symm, hb2⟩
  · have HV := Aside0.mk (show tBs L = bS (lsT L) by unfold tBs; rw [hv]; rfl)
    have HC := Aside0.mk (fun W h1 h2 => linesText_c A c L (vBooks_all hv).1 (vBooks_all hv).2 W h1 h2)
    rw [hv] at HI
    clear hv
    go_enter Tryd.func17, Tryd.ntmps17
    go_wp2_with fail
    refine HI.out.mono ?_; rintro _ w1 ⟨rfl, hb1⟩
    have HB1 := Aside0.mk hb1
    clear hb1
    go_wp2_with fail
    refine (HC.out _ (Kd.C_below HE.out HB1.out) (HT.out.below HB1.out)).mono ?_; rintro _ w2 ⟨rfl, hb2⟩
    go_wp2
    go_ret
    exact ⟨ret_str HV.out.symm, bstep HB1.out hb2⟩
set_option maxHeartbeats 2000000 in
theorem specBooksText_c (A : Option Addr) (c : Nat) (L : List Bk) (hok : OkL L) (w : World) (hL : kBk.C w A L.length L) : Calls Tryd.prog 15 #[.slice A L.length c] w (Ret w (.string (tBs L))) := by
  have HI := Aside0.mk (l01Ok_c A c L hok w hL)
  have HE := Aside0.mk hL
  clear hL hok
  cases hv : vBooks L
  · have HV := Aside0.mk (show tBs L = ⟨#[]⟩ by unfold tBs; rw [hv]; rfl)
    rw [hv] at HI
    clear hv
    go_enter Tryd.func15, Tryd.ntmps15
    go_wp2_with (go_at_call 48; refine HI.out.mono ?_; rintro _ w2 ⟨rfl, hb2⟩)
    go_ret
    exact ⟨ret_str HV.out.symm, hb2⟩
  · have HV := Aside0.mk (show tBs L = bS (lsT L) by unfold tBs; rw [hv]; rfl)
    have HC := Aside0.mk (fun W h1 => l01ListText_c A c L (vBooks_all hv).1 (vBooks_all hv).2 W h1)
    rw [hv] at HI
    clear hv
    go_enter Tryd.func15, Tryd.ntmps15
    go_wp2_with fail
    refine HI.out.mono ?_; rintro _ w1 ⟨rfl, hb1⟩
    have HB1 := Aside0.mk hb1
    clear hb1
    go_wp2_with fail
    refine (HC.out _ (Kd.C_below HE.out HB1.out)).mono ?_; rintro _ w2 ⟨rfl, hb2⟩
    go_wp2
    go_ret
    exact ⟨ret_str HV.out.symm, bstep HB1.out hb2⟩
end Go.Proofs.YtgibcacciedobaaDoor
