/- Numbers read from texts: the program's. -/
import Derived.Test.YtgibcacciedobaaDoorTxY
import Derived.Test.YtgibcacciedobaaDoorShelfP
import Derived.StillTailTactics
import Derived.Still
import Derived.Deep.QuietTactic
import Derived.BigQuiet
import Derived.Lib.AtoiErrMem
import Derived.Lib.AtoiTie
import Derived.Lib.ParseIntBTie
namespace Go.Proofs.YtgibcacciedobaaDoor
open Go.RowKit Go.Proofs.YtgibcacciedobaaDoorW.PrintWords Go.Proofs.YtgibcacciedobaaDoorW.PrintMore
set_option linter.unusedVariables false
set_option linter.unusedSimpArgs false
set_option maxRecDepth 100000

/-- What a reading wants of the world: the library's variables. -/
structure Txt (w : World) : Prop where
  tab : Tab w
  mx : ∃ m, w.cell? ⟨0, 0, none⟩ = some (.int .i64 m)
  es : ∃ ev, w.cell? ⟨2, 0, none⟩ = some ev ∧ (ev = .nilIface ∨ ∃ te pe, ev = .iface te pe)
  er : ∃ ev, w.cell? ⟨3, 0, none⟩ = some ev ∧ (ev = .nilIface ∨ ∃ te pe, ev = .iface te pe)
theorem Txt.below {w w1 : World} (h : Txt w) (hb : Below w.heap.size w w1) : Txt w1 := by
  obtain ⟨h1, ⟨m, h2⟩, ⟨ev, h3, h4⟩, ev2, h5, h6⟩ := h
  exact ⟨h1.below hb, ⟨m, pw_cell_below hb h2⟩, ⟨ev, pw_cell_below hb h3, h4⟩, ev2, pw_cell_below hb h5, h6⟩
theorem decZ_c (n : Int) (h0 : -9223372036854775808 ≤ n) (h1 : n ≤ 9223372036854775807) (w : World) (ht : Tab w) : Calls Tryd.prog 62 #[.int .i64 n] w (Ret w (.string (bS (Go.Lib.itoa n)))) := by
  have HF := Aside0.mk (show Calls Tryd.prog 97 #[.int .i64 n, .int .i64 10] w (Ret w (.string (bS (Go.Lib.itoa n)))) from (Tryd.strconv_FormatInt_10 n h0 h1 w ht).mono fun e w' ⟨he, k, os, hw⟩ => ⟨he, by rw [hw]; exact bgrow w k os⟩)
  clear ht
  go_enter Tryd.func62, Tryd.ntmps62
  go_wp2_with (go_at_call 97; refine HF.out.mono ?_; rintro _ w1 ⟨rfl, hb1⟩)
  go_ret
  exact ⟨rfl, hb1⟩
theorem bS_list (l : Bs) : (bS l).toList = l := by rw [Go.Lib.toList_data, bS_toList]
theorem ret_rd {a b : Int} {c d : Bool} (h : a = b) (k : c = d) : Ending.returned (.tuple #[.int .i64 a, .bool c]) = .returned (.tuple #[.int .i64 b, .bool d]) := by rw [h, k]
set_option maxHeartbeats 2000000 in
theorem readDec_c (l : Bs) (hl : l.length ≤ 1048576) (w : World) (ht : Txt w) : Calls Tryd.prog 71 #[.string (bS l)] w (Ret w (.tuple #[.int .i64 (rdN l), .bool (rdOk l)])) := by
  have hsz : (bS l).size ≤ 1048576 := by rw [bS_size]; exact hl
  have HT := Aside0.mk ht
  obtain ⟨_, _, ⟨ev, he1, he2⟩, ev2, hr1, hr2⟩ := ht
  cases h : Go.Lib.parseIntB 64 l
  · rename_i v
    have hv : -9223372036854775808 ≤ v ∧ v ≤ 9223372036854775807 := by
      rw [Go.Lib.parseIntB_64] at h
      exact Go.Lib.atoiAll_bounds h
    have HR := Aside0.mk (show rdN l = v by unfold rdN; rw [h])
    have HK := Aside0.mk (show rdOk l = (Go.Lib.itoa v == l) by unfold rdOk; rw [h])
    have HP := Aside0.mk (show Calls Tryd.prog 104 #[.string (bS l), .int .i64 10, .int .i64 64] w (Ret w (.tuple #[.int .i64 v, .nilIface])) from (Tryd.strconv_ParseInt_10_at64_ok (bS l) (by omega) v (by rw [bS_toList]; exact h) w).mono fun e w' ⟨he, hw⟩ => ⟨he, by
      rcases hw with rfl | ⟨t, rfl⟩
      · exact Below.refl _ _
      · exact Go.Lib.bytesWorld_below _ _ _⟩)
    have HD := Aside0.mk (fun W h => decZ_c v hv.1 hv.2 W h)
    clear h hv he1 he2 hr1 hr2
    have HQ := Aside0.mk (show ((bS (Go.Lib.itoa v)).toList == (bS l).toList) = rdOk l by rw [HK.out, bS_list, bS_list])
    go_enter Tryd.func71, Tryd.ntmps71
    go_wp2_with fail
    refine HP.out.mono ?_; rintro _ w1 ⟨rfl, hb1⟩
    have HB1 := Aside0.mk hb1
    clear hb1
    go_wp2_with fail
    refine (HD.out _ (HT.out.tab.below HB1.out)).mono ?_; rintro _ w2 ⟨rfl, hb2⟩
    have HB2 := Aside0.mk (bstep HB1.out hb2)
    clear hb2
    go_wp2
    go_ret2
    exact ⟨ret_rd HR.out.symm HQ.out, HB2.out⟩
  · have HR := Aside0.mk (show rdN l = 0 by unfold rdN; rw [h])
    have HK := Aside0.mk (show rdOk l = false by unfold rdOk; rw [h])
    have HP := Aside0.mk (Tryd.strconv_ParseInt_10_at64_syntax (bS l) (by omega) (by rw [bS_toList]; exact h) ev w he1 he2)
    clear h he1 he2 hr1 hr2
    go_enter Tryd.func71, Tryd.ntmps71
    go_wp2_with fail
    refine HP.out.mono ?_; rintro _ w1 ⟨N, rfl, _, _, hb1⟩
    have HB1 := Aside0.mk hb1
    clear hb1
    go_wp2
    go_ret2
    exact ⟨ret_rd HR.out.symm HK.out.symm, HB1.out⟩
  · have HR := Aside0.mk (show rdN l = Go.Lib.intSat 64 l by unfold rdN; rw [h])
    have HK := Aside0.mk (show rdOk l = false by unfold rdOk; rw [h])
    have HP := Aside0.mk (Tryd.strconv_ParseInt_10_at64_range (bS l) (by omega) (by rw [bS_toList]; exact h) ev2 w hr1 hr2)
    rw [bS_toList] at HP
    clear h he1 he2 hr1 hr2
    go_enter Tryd.func71, Tryd.ntmps71
    go_wp2_with fail
    refine HP.out.mono ?_; rintro _ w1 ⟨N, rfl, _, _, hb1⟩
    have HB1 := Aside0.mk hb1
    clear hb1
    go_wp2
    go_ret2
    exact ⟨ret_rd HR.out.symm HK.out.symm, HB1.out⟩
theorem i16_low {n : Int} (h : 0 ≤ n ∧ n ≤ 32767) : IntKind.i16.wrap n = n := by
  simp only [IntKind.wrap, IntKind.bits, IntKind.signed, Bool.true_and, decide_eq_true_eq, ge_iff_le]
  split <;> omega
set_option maxHeartbeats 2000000 in
theorem short_c (l : Bs) (hl : l.length ≤ 1048576) (w : World) (ht : Txt w) : Calls Tryd.prog 74 #[.string (bS l)] w (Ret w (.int .i16 (shN l))) := by
  have HD := Aside0.mk (readDec_c l hl w ht)
  have HW := Aside0.mk (fun W => within64_c (rdN l) 0 32767 W)
  clear ht
  cases hk : rdOk l
  · have HS := Aside0.mk (show shN l = -1 by unfold shN; rw [hk]; rfl)
    rw [hk] at HD
    clear hk
    generalize rdN l = v at HD HW
    go_enter Tryd.func74, Tryd.ntmps74
    go_wp2_with (go_at_call 71; refine HD.out.mono ?_; rintro _ w1 ⟨rfl, hb1⟩)
    go_ret
    exact ⟨ret_int HS.out.symm, hb1⟩
  · cases hr : inR (rdN l) 0 32767
    · have HS := Aside0.mk (show shN l = -1 by unfold shN; rw [hk, hr]; rfl)
      rw [hk] at HD
      rw [hr] at HW
      clear hk hr
      generalize rdN l = v at HD HW
      go_enter Tryd.func74, Tryd.ntmps74
      go_wp2_with fail
      refine HD.out.mono ?_; rintro _ w1 ⟨rfl, hb1⟩
      have HB1 := Aside0.mk hb1
      clear hb1
      go_wp2_with fail
      refine (HW.out _).mono ?_; rintro _ w2 ⟨rfl, rfl⟩
      go_wp2
      go_ret
      exact ⟨ret_int HS.out.symm, HB1.out⟩
    · have HS := Aside0.mk (show shN l = rdN l by unfold shN; rw [hk, hr]; rfl)
      have hv := inR_iff.1 hr
      have hwv : IntKind.i16.wrap (rdN l) = rdN l := i16_low hv
      rw [hk] at HD
      rw [hr] at HW
      clear hk hr
      generalize rdN l = v at HD HW HS hv hwv
      go_enter Tryd.func74, Tryd.ntmps74
      go_wp2_with fail
      refine HD.out.mono ?_; rintro _ w1 ⟨rfl, hb1⟩
      have HB1 := Aside0.mk hb1
      clear hb1
      go_wp2_with fail
      refine (HW.out _).mono ?_; rintro _ w2 ⟨rfl, rfl⟩
      go_wp2
      go_ret
      exact ⟨ret_int HS.out.symm, HB1.out⟩
end Go.Proofs.YtgibcacciedobaaDoor
