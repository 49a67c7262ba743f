/- Texts of this proof that belong together: TxV, TxU, TxQ, TxZ, TxC, TxG, TxH, TxI, Spec, TxF, WkLayoutText, CsSame, Same, FlX, WkFnFilled, Laid, LaidR, Open, OpenU. No condition. -/
import Derived.Test.YtgibcacciedobaaGreatDoorF5
import Derived.StillTailTactics
import Derived.Still
import Derived.Deep.QuietTactic
import Derived.BigQuiet
import Derived.Lib.AtoiErrMem
import Derived.Lib.AtoiTie
import Derived.Lib.ParseIntBTie
import Derived.Lib.SplitLaws
import Derived.Lib.Join
import Derived.Deep.RegionLaw
import Derived.Deep.RegionHeld3
import Derived.StillTail
import Derived.Deep.Quiet
import Derived.Deep.RegionWith
import Derived.ChangeKeysEq
import Derived.Test.YtgibcacciedobaaGreatDoorRows
import Derived.LaidLaws
import Derived.LaidMore
import Derived.MakeChecks
import Derived.Stop.LaidErr
import Derived.Stop.Joined
import Derived.Lib.LaidTab
import Derived.ProofKit
import Derived.Shelf.Vars
import Derived.OpenShut
import Derived.Deep.Slices
import Derived.ChangeOld
import Derived.Carry
section
/- Numbers read from texts: the program's. -/
namespace Go.Proofs.YtgibcacciedobaaGreatDoor
open Go.RowKit Go.Proofs.YtgibcacciedobaaGreatDoorW.PrintWords Go.Proofs.YtgibcacciedobaaGreatDoorW.PrintMore
set_option linter.unusedVariables false
set_option linter.unusedSimpArgs false
set_option maxRecDepth 100000

/-- What a reading wants of the world: the library's variables. -/
structure Txt (w : World) : Prop where
  tab : Tab w
  mx : ∃ m, w.cell? ⟨0, 0, none⟩ = some (.int .i64 m)
  es : ∃ ev, w.cell? ⟨1, 0, none⟩ = some ev ∧ (ev = .nilIface ∨ ∃ te pe, ev = .iface te pe)
  er : ∃ ev, w.cell? ⟨2, 0, none⟩ = some ev ∧ (ev = .nilIface ∨ ∃ te pe, ev = .iface te pe)
theorem Txt.below {w w1 : World} (h : Txt w) (hb : Below w.heap.size w w1) : Txt w1 := by
  obtain ⟨h1, ⟨m, h2⟩, ⟨ev, h3, h4⟩, ev2, h5, h6⟩ := h
  exact ⟨h1.below hb, ⟨m, pw_cell_below hb h2⟩, ⟨ev, pw_cell_below hb h3, h4⟩, ev2, pw_cell_below hb h5, h6⟩
theorem decZ_c (n : Int) (h0 : -9223372036854775808 ≤ n) (h1 : n ≤ 9223372036854775807) (w : World) (ht : Tab w) : Calls Tryz.prog 139 #[.int .i64 n] w (Ret w (.string (bS (Go.Lib.itoa n)))) := by
  have HF := Aside0.mk (show Calls Tryz.prog 175 #[.int .i64 n, .int .i64 10] w (Ret w (.string (bS (Go.Lib.itoa n)))) from (Tryz.strconv_FormatInt_10 n h0 h1 w ht).mono fun e w' ⟨he, k, os, hw⟩ => ⟨he, by rw [hw]; exact bgrow w k os⟩)
  clear ht
  go_enter Tryz.func139, Tryz.ntmps139
  go_wp2_with (go_at_call 175; refine HF.out.mono ?_; rintro _ w1 ⟨rfl, hb1⟩)
  go_ret
  exact ⟨rfl, hb1⟩
theorem bS_list (l : Bs) : (bS l).toList = l := by rw [Go.Lib.toList_data, bS_toList]
theorem ret_rd {a b : Int} {c d : Bool} (h : a = b) (k : c = d) : Ending.returned (.tuple #[.int .i64 a, .bool c]) = .returned (.tuple #[.int .i64 b, .bool d]) := by rw [h, k]
set_option maxHeartbeats 2000000 in
theorem readDec_c (l : Bs) (hl : l.length ≤ 1048576) (w : World) (ht : Txt w) : Calls Tryz.prog 116 #[.string (bS l)] w (Ret w (.tuple #[.int .i64 (rdN l), .bool (rdOk l)])) := by
  have hsz : (bS l).size ≤ 1048576 := by rw [bS_size]; exact hl
  have HT := Aside0.mk ht
  obtain ⟨_, _, ⟨ev, he1, he2⟩, ev2, hr1, hr2⟩ := ht
  cases h : Go.Lib.parseIntB 64 l
  · rename_i v
    have hv : -9223372036854775808 ≤ v ∧ v ≤ 9223372036854775807 := by
      rw [Go.Lib.parseIntB_64] at h
      exact Go.Lib.atoiAll_bounds h
    have HR := Aside0.mk (show rdN l = v by unfold rdN; rw [h])
    have HK := Aside0.mk (show rdOk l = (Go.Lib.itoa v == l) by unfold rdOk; rw [h])
    have HP := Aside0.mk (show Calls Tryz.prog 165 #[.string (bS l), .int .i64 10, .int .i64 64] w (Ret w (.tuple #[.int .i64 v, .nilIface])) from (Tryz.strconv_ParseInt_10_at64_ok (bS l) (by omega) v (by rw [bS_toList]; exact h) w).mono fun e w' ⟨he, hw⟩ => ⟨he, by
      rcases hw with rfl | ⟨t, rfl⟩
      · exact Below.refl _ _
      · exact Go.Lib.bytesWorld_below _ _ _⟩)
    have HD := Aside0.mk (fun W h => decZ_c v hv.1 hv.2 W h)
    clear h hv he1 he2 hr1 hr2
    have HQ := Aside0.mk (show ((bS (Go.Lib.itoa v)).toList == (bS l).toList) = rdOk l by rw [HK.out, bS_list, bS_list])
    go_enter Tryz.func116, Tryz.ntmps116
    go_wp2_with fail
    refine HP.out.mono ?_; rintro _ w1 ⟨rfl, hb1⟩
    have HB1 := Aside0.mk hb1
    clear hb1
    go_wp2_with fail
    refine (HD.out _ (HT.out.tab.below HB1.out)).mono ?_; rintro _ w2 ⟨rfl, hb2⟩
    have HB2 := Aside0.mk (bstep HB1.out hb2)
    clear hb2
    go_wp2
    go_ret2
    exact ⟨ret_rd HR.out.symm HQ.out, HB2.out⟩
  · have HR := Aside0.mk (show rdN l = 0 by unfold rdN; rw [h])
    have HK := Aside0.mk (show rdOk l = false by unfold rdOk; rw [h])
    have HP := Aside0.mk (Tryz.strconv_ParseInt_10_at64_syntax (bS l) (by omega) (by rw [bS_toList]; exact h) ev w he1 he2)
    clear h he1 he2 hr1 hr2
    go_enter Tryz.func116, Tryz.ntmps116
    go_wp2_with fail
    refine HP.out.mono ?_; rintro _ w1 ⟨N, rfl, _, _, hb1⟩
    have HB1 := Aside0.mk hb1
    clear hb1
    go_wp2
    go_ret2
    exact ⟨ret_rd HR.out.symm HK.out.symm, HB1.out⟩
  · have HR := Aside0.mk (show rdN l = Go.Lib.intSat 64 l by unfold rdN; rw [h])
    have HK := Aside0.mk (show rdOk l = false by unfold rdOk; rw [h])
    have HP := Aside0.mk (Tryz.strconv_ParseInt_10_at64_range (bS l) (by omega) (by rw [bS_toList]; exact h) ev2 w hr1 hr2)
    rw [bS_toList] at HP
    clear h he1 he2 hr1 hr2
    go_enter Tryz.func116, Tryz.ntmps116
    go_wp2_with fail
    refine HP.out.mono ?_; rintro _ w1 ⟨N, rfl, _, _, hb1⟩
    have HB1 := Aside0.mk hb1
    clear hb1
    go_wp2
    go_ret2
    exact ⟨ret_rd HR.out.symm HK.out.symm, HB1.out⟩
theorem i16_low {n : Int} (h : 0 ≤ n ∧ n ≤ 32767) : IntKind.i16.wrap n = n := by
  simp only [IntKind.wrap, IntKind.bits, IntKind.signed, Bool.true_and, decide_eq_true_eq, ge_iff_le]
  split <;> omega
set_option maxHeartbeats 2000000 in
theorem short_c (l : Bs) (hl : l.length ≤ 1048576) (w : World) (ht : Txt w) : Calls Tryz.prog 117 #[.string (bS l)] w (Ret w (.int .i16 (shN l))) := by
  have HD := Aside0.mk (readDec_c l hl w ht)
  have HW := Aside0.mk (fun W => withinT64_c (rdN l) 0 32767 W)
  clear ht
  cases hk : rdOk l
  · have HS := Aside0.mk (show shN l = -1 by unfold shN; rw [hk]; rfl)
    rw [hk] at HD
    clear hk
    generalize rdN l = v at HD HW
    go_enter Tryz.func117, Tryz.ntmps117
    go_wp2_with (go_at_call 116; refine HD.out.mono ?_; rintro _ w1 ⟨rfl, hb1⟩)
    go_ret
    exact ⟨ret_int HS.out.symm, hb1⟩
  · cases hr : inR (rdN l) 0 32767
    · have HS := Aside0.mk (show shN l = -1 by unfold shN; rw [hk, hr]; rfl)
      rw [hk] at HD
      rw [hr] at HW
      clear hk hr
      generalize rdN l = v at HD HW
      go_enter Tryz.func117, Tryz.ntmps117
      go_wp2_with fail
      refine HD.out.mono ?_; rintro _ w1 ⟨rfl, hb1⟩
      have HB1 := Aside0.mk hb1
      clear hb1
      go_wp2_with fail
      refine (HW.out _).mono ?_; rintro _ w2 ⟨rfl, rfl⟩
      go_wp2
      go_ret
      exact ⟨ret_int HS.out.symm, HB1.out⟩
    · have HS := Aside0.mk (show shN l = rdN l by unfold shN; rw [hk, hr]; rfl)
      have hv := inR_iff.1 hr
      have hwv : IntKind.i16.wrap (rdN l) = rdN l := i16_low hv
      rw [hk] at HD
      rw [hr] at HW
      clear hk hr
      generalize rdN l = v at HD HW HS hv hwv
      go_enter Tryz.func117, Tryz.ntmps117
      go_wp2_with fail
      refine HD.out.mono ?_; rintro _ w1 ⟨rfl, hb1⟩
      have HB1 := Aside0.mk hb1
      clear hb1
      go_wp2_with fail
      refine (HW.out _).mono ?_; rintro _ w2 ⟨rfl, rfl⟩
      go_wp2
      go_ret
      exact ⟨ret_int HS.out.symm, HB1.out⟩
end Go.Proofs.YtgibcacciedobaaGreatDoor
end
section
/- Numbers read from texts, texts parted: the reference's. -/
namespace Go.Proofs.YtgibcacciedobaaGreatDoor
open Go.RowKit Go.Proofs.YtgibcacciedobaaGreatDoorW.PrintWords Go.Proofs.YtgibcacciedobaaGreatDoorW.PrintMore
set_option linter.unusedVariables false
set_option linter.unusedSimpArgs false
set_option maxRecDepth 100000

open Go.Lib (decFrom digitVal)
def nmV (l : Bs) : Int := ((numL l).getD 0 : Nat)
def nmK (l : Bs) : Bool := (numL l).isSome
theorem bS_at {l : Bs} {k : Nat} {x : UInt8} (h : l[k]? = some x) : ∀ hk : k < (bS l).size, (((bS l)[k]'hk).toNat : Int) = (x.toNat : Int) := by
  intro hk
  have hl : k < l.length := (List.getElem?_eq_some_iff.1 h).1
  have e := (List.getElem?_eq_some_iff.1 h).2
  have : (bS l)[k]'hk = l[k]'hl := by
    simp [bS, ByteArray.getElem_eq_getElem_data]
  rw [this, e]
theorem num_none {l : Bs} (h : numL l = none) : nmV l = 0 ∧ nmK l = false := by unfold nmV nmK; rw [h]; exact ⟨rfl, rfl⟩
theorem num_long {l : Bs} (h : 9 < l.length) : numL l = none := by unfold numL; rw [if_pos (.inr (.inl h))]
theorem num_zero {r : Bs} (h : r ≠ []) : numL (48 :: r) = none := by
  unfold numL
  rw [if_pos]
  have := List.length_pos_iff.2 h
  exact .inr (.inr ⟨rfl, by simp only [List.length_cons]; omega⟩)
theorem num_go {l : Bs} (h0 : l ≠ []) (h1 : ¬ 9 < l.length) (h2 : ¬ (l.head? = some 48 ∧ 1 < l.length)) : numL l = decFrom 0 l := by
  unfold numL
  rw [if_neg]
  rintro (h | h | h)
  · exact h0 h
  · exact h1 h
  · exact h2 h
theorem decFrom_bad {l : Bs} {k acc : Nat} {x : UInt8} (h : l[k]? = some x) (hx : x.toNat < 48 ∨ 57 < x.toNat) : decFrom acc l = none := by
  cases hd : decFrom acc l with
  | none => rfl
  | some n =>
    exfalso
    revert acc n k
    induction l with
    | nil => intro k acc h n hd; simp at h
    | cons y r ih =>
      intro k acc h n hd
      rw [decFrom] at hd
      cases hy : digitVal y with
      | none => rw [hy] at hd; cases hd
      | some d =>
        rw [hy] at hd
        cases k with
        | zero =>
          simp only [List.getElem?_cons_zero, Option.some.injEq] at h
          subst h
          have := Go.Lib.digitVal_eq hy
          omega
        | succ k => exact ih (by simpa using h) n hd
theorem decFrom_lt9 {l : Bs} {n : Nat} (h : decFrom 0 l = some n) (hl : l.length ≤ 9) : n < 1000000000 := by
  have h1 := Go.Lib.decFrom_lt l 0 n h
  have h2 : 10 ^ l.length ≤ 10 ^ 9 := Nat.pow_le_pow_right (by decide) hl
  omega
theorem nm_some {l : Bs} {n : Nat} (h : numL l = some n) : nmV l = n ∧ nmK l = true := by unfold nmV nmK; rw [h]; exact ⟨rfl, rfl⟩
end Go.Proofs.YtgibcacciedobaaGreatDoor
end
section
/- Texts parted at a sign: the library's Split, and the reference's own. -/
namespace Go.Proofs.YtgibcacciedobaaGreatDoor
open Go.RowKit Go.Proofs.YtgibcacciedobaaGreatDoorW.PrintWords Go.Proofs.YtgibcacciedobaaGreatDoorW.PrintMore
set_option linter.unusedVariables false
set_option linter.unusedSimpArgs false
set_option maxRecDepth 100000

theorem ext_bS (l : Bs) (a b : Nat) : (bS l).extract a b = bS ((l.take b).drop a) := by
  rw [← bS_of ((bS l).extract a b), Go.Lib.extract_data, bS_toList, List.drop_take]
theorem splitB_bS (c : UInt8) (l : Bs) : Go.Lib.splitB (bS [c]) 0 (Go.Lib.countB (bS l) (bS [c])) (bS l) = (splitL c l).map bS := by
  have h := splitB_one c (bS l)
  rw [bS_toList] at h
  rw [← h, List.map_map]
  exact (map_back (fun x _ => bS_of x)).symm
theorem countB_bS (c : UInt8) (l : Bs) : Go.Lib.countB (bS l) (bS [c]) + 1 = (splitL c l).length := by
  have h := Go.Lib.splitB_all (bS [c]) (by rw [bS_size]; exact Nat.le_refl _) 0 _ (bS l) rfl
  rw [splitB_bS, List.length_map] at h
  exact h.symm
theorem splitL_len (c : UInt8) : ∀ l : Bs, (splitL c l).length ≤ l.length + 1
  | [] => Nat.le_refl _
  | x :: l => by
    have ih := splitL_len c l
    rw [splitL]
    split
    · simp only [List.length_cons]; omega
    · split
      · simp
      · rename_i w r h
        rw [h] at ih
        simp only [List.length_cons] at ih ⊢
        omega
/-- A row of texts that a literal lays. -/
theorem lit_C (W : World) (xs : List ByteArray) (hn : xs.length ≤ 2097152) : Kd.string.C (W.alloc (.cells (xs.map Value.string).toArray 9)) (some ⟨W.heap.size, 0, none⟩) xs.length xs := by
  have h1 := World.ownsRow_lit (base := 0) (e := 9) (size := 1) W (xs.map Value.string).toArray xs.length (Nat.zero_le _) (by unfold maxLen; omega) (by simp)
  have h2 : Kd.string.R 9 (W.alloc (.cells (xs.map Value.string).toArray 9)) 0 (fun _ => True) (.slice (some ⟨W.heap.size, 0, none⟩) xs.length xs.length) xs :=
    Kd.R_of_own (enc := Value.string) (h1 := fun _ => rfl) (by simpa [Go.Proofs.YtgibcacciedobaaGreatDoorW.PrintWords.encs] using h1) (fun _ _ => trivial)
  exact (Kd.R_reads' h2).2.2
/-- Pieces handed back. -/
def NewP (w : World) (ws : List Bs) (v : Value) (w' : World) : Prop := ∃ A c, v = .slice A ws.length c ∧ ws.length ≤ c ∧ Kd.string.C w' A ws.length (ws.map bS)
theorem split_c (c : UInt8) (l : Bs) (hl : l.length ≤ 1048576) (w : World) (ht : Txt w) : Calls Tryz.prog 115 #[.string (bS l), .string (bS [c])] w (RetQ w (NewP w (splitL c l))) := by
  obtain ⟨m, hm⟩ := ht.mx
  refine (Tryz.strings_Split (bS l) (bS [c]) m w (by rw [bS_size]; omega) hm (by rw [bS_size]; exact Nat.le_refl _)).mono ?_
  rintro e w' ⟨rfl, rfl⟩
  rw [countB_bS]
  refine ⟨_, rfl, balloc (Below.refl _ _) _, _, _, rfl, Nat.le_refl _, ?_⟩
  have h := lit_C w ((splitL c l).map bS) (by rw [List.length_map]; have := splitL_len c l; omega)
  rw [splitB_bS]
  rw [List.length_map] at h
  exact h
theorem at_str {ws : List Bs} {w : World} {A : Option Addr} {n : Nat} (h : Kd.string.C w A n (ws.map bS)) (i : Nat) (hi : i < n) (hn : n = ws.length) :
    ∃ ad x, A = some ad ∧ Aside0 (ws[i]? = some x) ∧ w.cell? (ad.add i) = some (.string (bS x)) := by
  obtain ⟨ad, e, hx⟩ := Kd.at_string h (i : Int) (by omega) (by omega)
  have hl : i < ws.length := by omega
  refine ⟨ad, ws[i], e, ⟨List.getElem?_eq_getElem hl⟩, ?_⟩
  rw [Int.toNat_natCast] at hx
  rw [hx]
  unfold Go.Proofs.YtgibcacciedobaaGreatDoorW.PrintWords.rdOf
  rw [Int.toNat_natCast, List.getD_eq_getElem?_getD, List.getElem?_map, List.getElem?_eq_getElem hl]
  rfl
/-- How far the reference has parted a text. -/
structure SpI (c : UInt8) (l : Bs) (k b : Nat) (P : List Bs) (cur : Bs) : Prop where
  e : splitL c l = P ++ splitL c (cur ++ l.drop k)
  no : c ∉ cur
  cur : cur = (l.take k).drop b
  le : b ≤ k
  n : P.length ≤ k
theorem SpI.hit {c : UInt8} {l : Bs} {k b : Nat} {P : List Bs} {cur : Bs} (h : SpI c l k b P cur) (hx : l[k]? = some c) : SpI c l (k + 1) (k + 1) (P ++ [cur]) [] := by
  have hk := (List.getElem?_eq_some_iff.1 hx).1
  have he := (List.getElem?_eq_some_iff.1 hx).2
  refine ⟨?_, List.not_mem_nil, ?_, Nat.le_refl _, by have := h.n; rw [List.length_append, List.length_singleton]; omega⟩
  · rw [h.e, List.drop_eq_getElem_cons hk, he, splitL_cons _ h.no, List.append_assoc]
    rfl
  · rw [List.drop_of_length_le (by rw [List.length_take]; omega)]
theorem SpI.miss {c x : UInt8} {l : Bs} {k b : Nat} {P : List Bs} {cur : Bs} (h : SpI c l k b P cur) (hx : l[k]? = some x) (hc : x ≠ c) : SpI c l (k + 1) b P (cur ++ [x]) := by
  have hk := (List.getElem?_eq_some_iff.1 hx).1
  have he := (List.getElem?_eq_some_iff.1 hx).2
  refine ⟨?_, ?_, ?_, by have := h.le; omega, by have := h.n; omega⟩
  · rw [h.e, List.drop_eq_getElem_cons hk, he, List.append_assoc]
    rfl
  · intro hm
    rcases List.mem_append.1 hm with hm | hm
    · exact h.no hm
    · exact hc (List.mem_singleton.1 hm).symm
  · rw [take_snoc hx, List.drop_append_of_le_length (by rw [List.length_take]; have := h.le; omega), ← h.cur]
theorem SpI.done {c : UInt8} {l : Bs} {b : Nat} {P : List Bs} {cur : Bs} (h : SpI c l l.length b P cur) : splitL c l = P ++ [cur] := by
  rw [h.e, List.drop_length, List.append_nil, splitL_none h.no]
end Go.Proofs.YtgibcacciedobaaGreatDoor
end
section
/- ReadLayout: the program's and the reference's. -/
namespace Go.Proofs.YtgibcacciedobaaGreatDoor
open Go.RowKit Go.Proofs.YtgibcacciedobaaGreatDoorW.PrintWords Go.Proofs.YtgibcacciedobaaGreatDoorW.PrintMore
set_option linter.unusedVariables false
set_option linter.unusedSimpArgs false
set_option maxRecDepth 100000

open Classical in
/-- The layout of a text, none if there is none. -/
noncomputable def lyV (l : Bs) : List Int := if h : ∃ E, RdL l E then Classical.choose h else []
open Classical in
noncomputable def lyE (l : Bs) : Int := if ∃ E, RdL l E then 0 else 5
theorem ly_ok {l : Bs} {E : List Int} (h : RdL l E) : lyV l = E ∧ lyE l = 0 := by
  have hx : ∃ E, RdL l E := ⟨E, h⟩
  unfold lyV lyE
  rw [dif_pos hx, if_pos hx]
  exact ⟨(Classical.choose_spec hx).unique h, rfl⟩
theorem ly_no {l : Bs} (h : ∀ E, ¬ RdL l E) : lyV l = [] ∧ lyE l = 5 := by
  have hx : ¬ ∃ E, RdL l E := fun ⟨E, hE⟩ => h E hE
  unfold lyV lyE
  rw [dif_neg hx, if_neg hx]
  exact ⟨rfl, rfl⟩
theorem splitL_mem (c : UInt8) : ∀ (l : Bs) (w : Bs), w ∈ splitL c l → w.length ≤ l.length
  | [], w, h => by rw [splitL, List.mem_singleton] at h; rw [h]; exact Nat.le_refl _
  | x :: l, w, h => by
    have ih := splitL_mem c l
    rw [splitL] at h
    split at h
    · rcases List.mem_cons.1 h with rfl | h
      · exact Nat.zero_le _
      · exact Nat.le_succ_of_le (ih w h)
    · split at h
      · rw [List.mem_singleton] at h
        rw [h]
        simp
      · rename_i v r hs
        rcases List.mem_cons.1 h with rfl | h
        · have := ih v (by rw [hs]; simp)
          simp only [List.length_cons]
          omega
        · exact Nat.le_succ_of_le (ih w (by rw [hs]; simp [h]))
theorem lyV_len (l : Bs) : (lyV l).length ≤ 12 := by
  by_cases h : ∃ E, RdL l E
  · obtain ⟨E, hE⟩ := h
    rw [(ly_ok hE).1]
    exact (plE hE.1).n.2
  · rw [(ly_no (fun E hE => h ⟨E, hE⟩)).1]
    exact Nat.zero_le _
def gdW (w : Bs) : Bool := rdOk w && inR (rdN w) 0 60
set_option maxHeartbeats 4000000 in
theorem ReadLayout_c (l : Bs) (hl : l.length ≤ 1048576) (w : World) (ht : Txt w) : Calls Tryz.prog 65 #[.string (bS l)] w (RetQ w (TupI w (lyV l) (lyE l))) := by
  have HS := Aside0.mk (split_c 44 l hl w ht)
  have HT := Aside0.mk ht
  have HML := Aside0.mk (fun x hx => Nat.le_trans (splitL_mem 44 l x hx) hl)
  clear ht
  by_cases hn : 12 < (splitL 44 l).length
  · have HN := Aside0.mk (ly_no (rdl_many hn))
    have hn' : (12 : Int) < ((splitL 44 l).length : Int) := by omega
    clear hn
    generalize splitL 44 l = ws at HS HML hn'
    go_enter Tryz.func65, Tryz.ntmps65
    go_wp2_with fail
    refine HS.out.mono ?_; rintro _ w1 ⟨_, rfl, hb1, A1, c1, rfl, hc1, hC1⟩
    have HB1 := Aside0.mk hb1
    clear hb1 hC1
    go_wp2
    go_ret2
    rw [HN.out.1, HN.out.2]
    exact ⟨_, rfl, HB1.out, _, rfl, Kd.R_nil _ _ _ _ _⟩
  · have hn' : ¬ (12 : Int) < ((splitL 44 l).length : Int) := by omega
    have HG := Aside0.mk (fun (h : ∀ x, x ∈ splitL 44 l → gdW x = true) => ly_ok (rdl_all (by omega) h))
    have HBD := Aside0.mk (fun (x : Bs) (hx : x ∈ splitL 44 l) (h : gdW x = false) => ly_no (rdl_bad hx h))
    have hle : (splitL 44 l).length ≤ 12 := by omega
    clear hn
    generalize splitL 44 l = ws at HS HML HG HBD hn' hle
    go_enter Tryz.func65, Tryz.ntmps65
    go_wp2_with fail
    refine HS.out.mono ?_; rintro _ w1 ⟨_, rfl, hb1, A1, c1, rfl, hc1, hC1⟩
    have HC1 := Aside0.mk hC1
    have HB1 := Aside0.mk hb1
    clear hb1 hC1
    go_wp2_with fail
    go_loopg [5, 17] ws.length (fun gk v5 v17 wr => ∃ k : Nat, k + gk = ws.length ∧ v17 = .int .i64 k ∧ Aside0 (∀ x, x ∈ ws.take k → gdW x = true) ∧ Aside0 ((Kd.int .i64).R 2 wr w1.heap.size (fun _ => True) v5 ((ws.take k).map rdN)) ∧ Aside0 (Below w1.heap.size w1 wr))
    case atStart => exact ⟨0, by omega, rfl, ⟨by simp⟩, ⟨Kd.R_nil _ _ _ _ _⟩, ⟨Below.refl _ _⟩⟩
    case round =>
      obtain ⟨k, hk, rfl, hp, HR, hb⟩ := hrel
      have HK := Aside0.mk hk
      by_cases hlt : k < ws.length
      · obtain ⟨ad, x, rfl, hbk, hx⟩ := at_str (Kd.C_below HC1.out hb.out) k (by omega) rfl
        have HD := Aside0.mk (readDec_c x (HML.out x (mem_of hbk.out)) wr (HT.out.below (HB1.out.trans (hb.out.mono HB1.out.size))))
        have HW := Aside0.mk (fun W => withinT64_c (rdN x) 0 60 W)
        have HT2 := Aside0.mk (show (ws.take (k + 1)).map rdN = (ws.take k).map rdN ++ [rdN x] by rw [take_snoc hbk.out, List.map_append]; rfl)
        have hlen : ((ws.take k).map rdN).length ≤ 2097152 := by rw [List.length_map, List.length_take]; omega
        have i0 : (0 : Int) ≤ (k : Int) := by omega
        have i1 : (k : Int) < (ws.length : Int) := by omega
        have HGX := Aside0.mk (show gdW x = (rdOk x && inR (rdN x) 0 60) from rfl)
        have HBX := Aside0.mk (fun h => HBD.out x (mem_of hbk.out) h)
        clear hk
        cases ho : rdOk x
        · rw [ho] at HD HGX
          have HV := Aside0.mk (HBX.out HGX.out)
          generalize rdN x = z at HD HW HT2
          clear ho
          go_wp2_with fail
          refine HD.out.mono ?_; rintro _ w3 ⟨rfl, hb3⟩
          have HB3 := Aside0.mk (HB1.out.trans ((bstep hb.out hb3).mono HB1.out.size))
          clear hb3
          go_wp2
          go_ret2
          rw [HV.out.1, HV.out.2]
          exact ⟨_, rfl, HB3.out, _, rfl, Kd.R_nil _ _ _ _ _⟩
        · cases hr : inR (rdN x) 0 60
          · rw [ho] at HD HGX
            rw [hr] at HW HGX
            have HV := Aside0.mk (HBX.out HGX.out)
            generalize rdN x = z at HD HW HT2
            clear ho hr
            go_wp2_with fail
            refine HD.out.mono ?_; rintro _ w3 ⟨rfl, hb3⟩
            have HB3 := Aside0.mk (HB1.out.trans ((bstep hb.out hb3).mono HB1.out.size))
            clear hb3
            go_wp2_with fail
            refine (HW.out _).mono ?_; rintro _ w4 ⟨rfl, rfl⟩
            go_wp2
            go_ret2
            rw [HV.out.1, HV.out.2]
            exact ⟨_, rfl, HB3.out, _, rfl, Kd.R_nil _ _ _ _ _⟩
          · rw [ho] at HD HGX
            rw [hr] at HW HGX
            have HV := Aside0.mk (all_next (p := gdW) hp.out hbk.out HGX.out)
            generalize rdN x = z at HD HW HT2
            clear ho hr
            go_wp2_with fail
            refine HD.out.mono ?_; rintro _ w3 ⟨rfl, hb3⟩
            have HR3 := Aside0.mk (Kd.R_below HR.out hb3)
            have HB3 := Aside0.mk (bstep hb.out hb3)
            clear hb3
            go_wp2_with fail
            refine (HW.out _).mono ?_; rintro _ w4 ⟨rfl, rfl⟩
            go_wp2_with (at_builtin; refine i64_append (w := w1) rfl (.tmp 33) (.tmp 35) rfl _ ((ws.take k).map rdN) z rfl rfl HR3.out HB3.out hlen ?_; intro v1 w9 hR1 hB1 _; have HR9 := Aside0.mk hR1; have HB9 := Aside0.mk hB1; clear hR1 hB1)
            go_roundg (gk - 1)
            case measure => have := HK.out; omega
            case rel => exact ⟨k + 1, by have := HK.out; omega, by go_num, HV, ⟨by rw [HT2.out]; exact HR9.out⟩, HB9⟩
      · have hs : ws.take k = ws := List.take_of_length_le (by omega)
        have hp9 := hp.out
        rw [hs] at HR hp9
        have HV := Aside0.mk (HG.out hp9)
        clear hk hs hp9
        go_wp2
        go_ret2
        rw [HV.out.1, HV.out.2]
        exact ⟨_, rfl, HB1.out.trans (hb.out.mono HB1.out.size), _, rfl, Kd.R_lower HR.out HB1.out.size⟩
end Go.Proofs.YtgibcacciedobaaGreatDoor
end
section
/- Texts of cases, in plain Lean. -/
namespace Go.Proofs.YtgibcacciedobaaGreatDoor
open Go.RowKit Go.Proofs.YtgibcacciedobaaGreatDoorW.PrintWords Go.Proofs.YtgibcacciedobaaGreatDoorW.PrintMore
set_option linter.unusedVariables false
set_option linter.unusedSimpArgs false
set_option maxRecDepth 100000

def csWs (k : Cs) : List Bs := dg k.wd :: dg k.ld :: k.hs.map dg
def csT (k : Cs) : Bs := joinL 32 (csWs k)
structure VC1 (k : Cs) : Prop where
  wd : 1 ≤ k.wd ∧ k.wd ≤ 2000
  ld : 1 ≤ k.ld ∧ k.ld ≤ 200000
  n : 1 ≤ k.hs.length ∧ k.hs.length ≤ 12
  h : ∀ x, x ∈ k.hs → 50 ≤ x ∧ x ≤ 1000
theorem vC1 {k : Cs} (h : vCase k = true) : VC1 k := by
  simp only [vCase, inR, Bool.and_eq_true, decide_eq_true_eq, List.all_eq_true] at h
  obtain ⟨h1, h2, h3, h4⟩ := h
  exact ⟨h1, h2, by omega, h4⟩
theorem csWs_no (k : Cs) : ∀ w, w ∈ csWs k → (32 : UInt8) ∉ w := by
  intro w hw
  unfold csWs at hw
  rcases List.mem_cons.1 hw with rfl | hw
  · exact not_dig (by decide)
  · rcases List.mem_cons.1 hw with rfl | hw
    · exact not_dig (by decide)
    · obtain ⟨x, _, rfl⟩ := List.mem_map.1 hw
      exact not_dig (by decide)
def RdC (l : Bs) (k : Cs) : Prop := vCase k = true ∧ csT k = l
theorem rdc_words {l : Bs} {k : Cs} (h : RdC l k) : splitL 32 l = csWs k := by
  rw [← h.2]
  exact splitL_join (List.cons_ne_nil _ _) (csWs_no k)
theorem RdC.unique {l : Bs} {k k' : Cs} (h : RdC l k) (h' : RdC l k') : k = k' := by
  have v := vC1 h.1
  have v' := vC1 h'.1
  have e : csWs k = csWs k' := by rw [← rdc_words h, ← rdc_words h']
  unfold csWs at e
  simp only [List.cons.injEq] at e
  obtain ⟨e1, e2, e3⟩ := e
  cases k; cases k'
  simp only [Cs.mk.injEq]
  obtain ⟨a1, a2, a3, a4⟩ := v
  obtain ⟨c1, c2, c3, c4⟩ := v'
  simp only at a1 a2 a3 a4 c1 c2 c3 c4 e1 e2 e3
  exact ⟨dg_inj (by omega) (by omega) e1, dg_inj (by omega) (by omega) e2, map_dg_inj (fun x hx => by have := a4 x hx; omega) (fun x hx => by have := c4 x hx; omega) e3⟩
def CsR (l : Bs) (k : Cs) (n err : Int) : Prop := (n = 0 ∧ RdC l k) ∨ (n = err ∧ k = ⟨0, 0, []⟩ ∧ ∀ k', ¬ RdC l k')
theorem CsR.unique {l : Bs} {k k' : Cs} {n m err : Int} (h : CsR l k n err) (h' : CsR l k' m err) : k = k' ∧ n = m := by
  rcases h with ⟨h1, h2⟩ | ⟨h1, h2, h3⟩ <;> rcases h' with ⟨k1, k2⟩ | ⟨k1, k2, k3⟩
  · exact ⟨h2.unique k2, by rw [h1, k1]⟩
  · exact absurd h2 (k3 _)
  · exact absurd k2 (h3 _)
  · exact ⟨by rw [h2, k2], by rw [h1, k1]⟩
theorem rdc_len {l : Bs} {k : Cs} (h : RdC l k) : 3 ≤ (splitL 32 l).length ∧ (splitL 32 l).length ≤ 14 := by
  rw [rdc_words h]
  have := (vC1 h.1).n
  simp only [csWs, List.length_cons, List.length_map]
  omega
/-- The case that the program makes of words. -/
def csOf (w0 w1 : Bs) (r : List Bs) : Cs := ⟨shN w0, min (max (rdN w1) 0) 200001, r.map shN⟩
theorem csOf_back {l w0 w1 : Bs} {r : List Bs} (h : splitL 32 l = w0 :: w1 :: r) {k : Cs} (hr : RdC l k) : csOf w0 w1 r = k := by
  have e := rdc_words hr
  rw [h] at e
  unfold csWs at e
  simp only [List.cons.injEq] at e
  obtain ⟨rfl, rfl, rfl⟩ := e
  obtain ⟨a1, a2, a3, a4⟩ := vC1 hr.1
  unfold csOf
  rw [shN_dg (by omega) (by omega), (rd_dg (n := k.ld) (by omega) (by omega)).1, List.map_map]
  cases k
  simp only [Cs.mk.injEq, true_and] at a1 a2 a3 a4 ⊢
  refine ⟨by omega, ?_⟩
  exact map_back (fun x hx => by have := a4 x hx; exact shN_dg (by omega) (by omega))
theorem rdc_impl {l w0 w1 : Bs} {r : List Bs} (h : splitL 32 l = w0 :: w1 :: r) (err : Int) :
    CsR l (if (vCase (csOf w0 w1 r) && (csT (csOf w0 w1 r) == l)) = true then csOf w0 w1 r else ⟨0, 0, []⟩) (if (vCase (csOf w0 w1 r) && (csT (csOf w0 w1 r) == l)) = true then 0 else err) err := by
  split
  · rename_i hc
    rw [Bool.and_eq_true, beq_iff_eq] at hc
    exact .inl ⟨rfl, hc⟩
  · rename_i hc
    refine .inr ⟨rfl, rfl, fun b hb => hc ?_⟩
    rw [csOf_back h hb, Bool.and_eq_true, beq_iff_eq]
    exact hb
/-- The number of a word that the reference has read. -/
def nmW (w : Bs) : Int := ((numL w).getD 0 : Nat)
/-- The case that the reference makes of words. -/
def csNm : List Bs → Cs
  | [] => ⟨0, 0, []⟩
  | [w0] => ⟨nmW w0, 0, []⟩
  | w0 :: w1 :: r => ⟨nmW w0, nmW w1, r.map nmW⟩
theorem nmW_dg {w : Bs} (h : ∃ n, numL w = some n) : dg (nmW w) = w := by
  obtain ⟨n, hn⟩ := h
  unfold nmW
  rw [hn]
  exact numL_back hn
theorem nmW_of {n : Int} (h0 : 0 ≤ n) (h1 : n < 1000000000) : nmW (dg n) = n := by
  unfold nmW
  rw [numL_dg h0 h1]
  show ((n.toNat : Nat) : Int) = n
  omega
/-- A word that the reference lets pass. -/
def wOk (i : Nat) (w : Bs) : Prop := ∃ n, numL w = some n ∧ n ≤ 200000 ∧ (i ≠ 1 → n ≤ 2000)
theorem rdc_word {l w : Bs} {i : Nat} (hw : (splitL 32 l)[i]? = some w) {k : Cs} (hr : RdC l k) : wOk i w := by
  rw [rdc_words hr] at hw
  obtain ⟨a1, a2, a3, a4⟩ := vC1 hr.1
  unfold csWs at hw
  match i, hw with
  | 0, hw =>
    cases hw
    exact ⟨_, numL_dg (by omega) (by omega), by omega, fun _ => by omega⟩
  | 1, hw =>
    cases hw
    exact ⟨_, numL_dg (by omega) (by omega), by omega, fun h => absurd rfl h⟩
  | i + 2, hw =>
    simp only [List.getElem?_cons_succ] at hw
    obtain ⟨x, hx, rfl⟩ := List.getElem?_map .. ▸ hw |> Option.map_eq_some_iff.1
    have := a4 x (List.mem_of_getElem? hx)
    exact ⟨_, numL_dg (by omega) (by omega), by omega, fun _ => by omega⟩
theorem rdc_spec {l : Bs} (h : ∀ w, w ∈ splitL 32 l → ∃ n, numL w = some n) (err : Int) :
    CsR l (if vCase (csNm (splitL 32 l)) = true then csNm (splitL 32 l) else ⟨0, 0, []⟩) (if vCase (csNm (splitL 32 l)) = true then 0 else err) err := by
  split
  · rename_i hc
    refine .inl ⟨rfl, hc, ?_⟩
    have v := vC1 hc
    have e := joinL_split 32 l
    generalize splitL 32 l = ws at h hc v e ⊢
    match ws, h, hc, v, e with
    | [], _, _, v, _ => have := v.n; simp [csNm] at this
    | [_], _, _, v, _ => have := v.n; simp [csNm] at this
    | w0 :: w1 :: r, h, _, _, e =>
      have hr : (r.map nmW).map dg = r := by
        rw [List.map_map]
        exact map_back (fun w hw => nmW_dg (h w (by simp [hw])))
      rw [← e]
      unfold csT csWs csNm
      simp only
      rw [nmW_dg (h w0 (by simp)), nmW_dg (h w1 (by simp)), hr]
  · rename_i hc
    refine .inr ⟨rfl, rfl, fun k hr => hc ?_⟩
    have e := rdc_words hr
    obtain ⟨a1, a2, a3, a4⟩ := vC1 hr.1
    have : csNm (splitL 32 l) = k := by
      rw [e]
      show (⟨nmW (dg k.wd), nmW (dg k.ld), (k.hs.map dg).map nmW⟩ : Cs) = k
      rw [nmW_of (n := k.wd) (by omega) (by omega), nmW_of (n := k.ld) (by omega) (by omega), List.map_map]
      cases k
      simp only [Cs.mk.injEq, true_and] at a4 ⊢
      exact map_back (fun x hx => by have := a4 x hx; exact nmW_of (by omega) (by omega))
    rw [this]
    exact hr.1
end Go.Proofs.YtgibcacciedobaaGreatDoor
end
section
/- A case's text: the program's and the reference's. -/
namespace Go.Proofs.YtgibcacciedobaaGreatDoor
open Go.RowKit Go.Proofs.YtgibcacciedobaaGreatDoorW.PrintWords Go.Proofs.YtgibcacciedobaaGreatDoorW.PrintMore
set_option linter.unusedVariables false
set_option linter.unusedSimpArgs false
set_option maxRecDepth 100000


set_option maxHeartbeats 2000000 in
theorem eachDecH_c (A : Option Addr) (c : Nat) (L : List Int) (f : FuncId) (p : Int → ByteArray) (w : World) (hL : (Kd.int .i16).C w A L.length L) (hn : L.length ≤ 2097152) (hfn : Fun Tryz.prog f)
    (hf : ∀ W, Below w.heap.size w W → ∀ x, x ∈ L → Calls Tryz.prog f (#[] ++ #[.int .i16 x]) W (Ret W (.string (p x)))) :
    Calls Tryz.prog 167 #[.slice A L.length c, .func (.func f) #[] #[]] w (RetQ w (fun v w' => Kd.string.R 9 w' w.heap.size (fun _ => True) v (L.map p))) := by
  have hm := Kd.C_max hL
  have hcf := hfn.run
  have HF := Aside0.mk hf
  have HX := Aside0.mk hL
  clear hf hfn hL
  go_enter Tryz.func167, Tryz.ntmps167
  go_wp2_with fail
  go_loopg [5, 10] L.length (fun gk v5 v10 wr => ∃ s : Nat, s + gk = L.length ∧ v10 = .int .i64 s ∧ Aside0 (Kd.string.R 9 wr w.heap.size (fun _ => True) v5 ((L.take s).map p)) ∧ Aside0 (Below w.heap.size w wr))
  case atStart => exact ⟨0, by omega, rfl, ⟨Kd.R_nil _ _ _ _ _⟩, ⟨Below.refl _ _⟩⟩
  case round =>
    obtain ⟨s, hk, rfl, HR, hb⟩ := hrel
    have HK := Aside0.mk hk
    by_cases hlt : s < L.length
    · obtain ⟨ad, x, rfl, hbk, hx⟩ := at_int' (Kd.C_below HX.out hb.out) s (by omega)
      have HC := Aside0.mk (HF.out wr hb.out x (mem_of hbk.out))
      have HT := Aside0.mk (show (L.take (s + 1)).map p = (L.take s).map p ++ [p x] by rw [take_snoc hbk.out, List.map_append]; rfl)
      have i0 : (0 : Int) ≤ (s : Int) := by omega
      have i1 : (s : Int) < (L.length : Int) := by omega
      have hlen : ((L.take s).map p).length ≤ 2097152 := by rw [List.length_map, List.length_take]; omega
      generalize p x = z at HC HT
      clear hk
      go_wp2_with fail
      refine HC.out.mono ?_; rintro _ w3 ⟨rfl, hb3⟩
      have HR3 := Aside0.mk (Kd.R_below HR.out hb3)
      have HB3 := Aside0.mk (bstep hb.out hb3)
      clear hb3
      go_wp2_with (at_builtin; refine str_append (w := w) rfl (.tmp 14) (.tmp 18) rfl _ ((L.take s).map p) z rfl rfl HR3.out HB3.out hlen ?_; intro v1 w9 hR1 hB1 _; have HR9 := Aside0.mk hR1; have HB9 := Aside0.mk hB1; clear hR1 hB1)
      go_roundg (gk - 1)
      case measure => have := HK.out; omega
      case rel => exact ⟨s + 1, by have := HK.out; omega, by go_num, ⟨by rw [HT.out]; exact HR9.out⟩, HB9⟩
    · have hs : L.take s = L := List.take_of_length_le (by omega)
      rw [hs] at HR
      clear hk hs
      go_wp2
      go_ret
      exact ⟨_, rfl, hb.out, HR.out⟩

theorem dec32_c (n : Int) (h0 : 0 ≤ n) (h1 : n ≤ 2147483647) (w : World) (ht : Tab w) : Calls Tryz.prog 166 #[.int .i32 n] w (Ret w (.string (bS (dg n)))) := by
  have HF := Aside0.mk (fmt_c n h0 (by omega) w ht)
  have hw : IntKind.i64.wrap n = n := by rw [IntKind.wrap_i64]; omega
  clear ht
  go_enter Tryz.func166, Tryz.ntmps166
  go_wp2_with (go_at_call 175; refine HF.out.mono ?_; rintro _ w1 ⟨rfl, hb1⟩)
  go_ret
  exact ⟨rfl, hb1⟩
section
variable {ops : Array Oper} {o : Oper} {a : Act} {Q : Exit → Act → World → Prop} {Kc : Act → World → Prop}
theorem wp_of_only {P : Program} {w : World} (h : Oper.wp P o a w (fun a' w' => Exit.normal = Exit.normal ∧ Kc a' w') (fun e a' w' => e = Exit.normal ∧ Kc a' w')) : Oper.wp P o a w Kc Q := by
  unfold Oper.wp at *
  generalize (execOp a.eval o).run P w = r at *
  cases r with
  | ok n w' =>
    cases n <;> simp only [Oper.upon] at h ⊢
    case value => exact h.2
    case skip => exact h.2
    case defer => exact h.2
    case row => exact h.mono fun v w2 hh => hh.2
    case enter =>
      refine h.mono fun e w'' hh => ?_
      cases e with
      | returned v => exact hh.2
      | panicked c => cases hh.1
      | outgrown => obtain ⟨_, _, e1, _⟩ := hh; cases e1
    all_goals exact h
  | halt x w' =>
    cases x <;> simp only [Oper.upon] at h ⊢
    case panic => cases h.1
/-- append(out, more...), in a region. -/
theorem str_append_step {w0 W : World} (hgd : o.guard = none) (hw : Region.wanted o (yielded ops a.tmps) = true) (s x : Operand) (ho : o.op = .call { callee := .builtin .append, args := #[s, x], argTypes := #[125, 125] })
    (v : Value) (xs ys : List ByteArray) (A : Option Addr) (m c : Nat) (hs : a.eval s = v) (hx : a.eval x = .slice A m c) (HO : Kd.string.R 9 W w0.heap.size (fun _ => True) v xs) (HR : Kd.string.C W A m ys) (HB : Below w0.heap.size w0 W) (hl : xs.length + m ≤ 2097152)
    (h : ∀ v1 w1, Kd.string.R 9 w1 w0.heap.size (fun _ => True) v1 (xs ++ ys) → Below w0.heap.size w0 w1 → Kc (a.put o.dst v1) w1) :
    if Region.wanted o (yielded ops a.tmps) = true then Oper.wp Tryz.prog o a W Kc Q else Kc (a.put o.dst undef) W := by
  rw [if_pos hw]
  have := Kd.R_append_row (P := Tryz.prog) (ops := ops) (o := o) (rest := []) (a := a) (Q := fun e a' w' => e = .normal ∧ Kc a' w') (w0 := w0) (W := W) Value.string ByteArray.empty (h1 := fun _ => rfl) w0.heap.size hgd s x 125 9 (.string ByteArray.empty) 16 ho Tryz.underlying125 info_str rfl (by decide) v xs ys A m c (fun _ => True) hs hx (fun _ _ => trivial) HO HR HB HB.size (by omega)
    (fun v1 w1 h1 h2 _ _ => ⟨rfl, h v1 w1 h1 h2⟩)
  rw [wpList, if_pos hw] at this
  rcases this with h1 | ⟨_, _, _, e1, _⟩
  · exact wp_of_only h1
  · cases e1
end
/-- A literal of two texts. -/
theorem lit_R (w0 W : World) (x y : ByteArray) (hb : w0.heap.size ≤ W.heap.size) : Kd.string.R 9 (W.alloc (.cells #[.string x, .string y] 9)) w0.heap.size (fun _ => True) (.slice (some ⟨W.heap.size, 0, none⟩) 2 2) [x, y] := by
  refine Kd.R_of_own (enc := Value.string) (h1 := fun _ => rfl) ?_ (fun _ _ => trivial)
  exact World.ownsRow_lit (base := w0.heap.size) (e := 9) (size := 1) W #[.string x, .string y] 2 hb (by decide) rfl
theorem lit_blk (w0 W : World) (g : Nat) (x y : ByteArray) (h : W.heap[g]? = some (.cells #[.string x, .string y] 9 (0, 0))) (hb : w0.heap.size ≤ g) : Kd.string.R 9 W w0.heap.size (fun _ => True) (.slice (some ⟨g, 0, none⟩) 2 2) [x, y] := by
  refine Kd.R_of_own (enc := Value.string) (h1 := fun _ => rfl) ?_ (fun _ _ => trivial)
  exact ⟨rfl, .inr ⟨g, 2, #[.string x, .string y], rfl, hb, h, Nat.le_refl _, by decide, rfl, rfl⟩⟩
theorem str_append_lit {ops : Array Oper} {o : Oper} {a : Act} {Q : Exit → Act → World → Prop} {Kc : Act → World → Prop} {w0 W : World} (hgd : o.guard = none) (hw : Region.wanted o (yielded ops a.tmps) = true) (s x : Operand) (ho : o.op = .call { callee := .builtin .append, args := #[s, x], argTypes := #[125, 125] })
    (g : Nat) (p q : ByteArray) (ys : List ByteArray) (A : Option Addr) (m c : Nat) (hs : a.eval s = .slice (some ⟨g, 0, none⟩) 2 2) (hx : a.eval x = .slice A m c) (hblk : W.heap[g]? = some (.cells #[.string p, .string q] 9 (0, 0))) (hb : w0.heap.size ≤ g) (HR : Kd.string.C W A m ys) (HB : Below w0.heap.size w0 W) (hl : 2 + m ≤ 2097152)
    (h : ∀ v1 w1, Kd.string.R 9 w1 w0.heap.size (fun _ => True) v1 ([p, q] ++ ys) → Below w0.heap.size w0 w1 → Kc (a.put o.dst v1) w1) :
    if Region.wanted o (yielded ops a.tmps) = true then Oper.wp Tryz.prog o a W Kc Q else Kc (a.put o.dst undef) W :=
  str_append_step hgd hw s x ho _ [p, q] ys A m c hs hx (lit_blk w0 W g p q hblk hb) HR HB hl h
theorem csT_join (k : Cs) : Go.Lib.join (csWs k) [32] = csT k := join_joinL 32 _
theorem csT_len {k : Cs} (h : VC1 k) : (csT k).length ≤ 100 := by
  have h1 : ∀ w, w ∈ csWs k → w.length ≤ 6 := by
    intro w hw
    unfold csWs at hw
    rcases List.mem_cons.1 hw with rfl | hw
    · exact dg_len 5 (by have := h.wd; omega) (by have := h.wd; omega)
    · rcases List.mem_cons.1 hw with rfl | hw
      · exact dg_len 5 (by have := h.ld; omega) (by have := h.ld; omega)
      · obtain ⟨x, hx, rfl⟩ := List.mem_map.1 hw
        have := h.h x hx
        exact dg_len 5 (by omega) (by omega)
  have h2 := joinL_len (c := 32) h1
  have := h.n
  unfold csT
  simp only [csWs, List.length_cons, List.length_map] at h2 ⊢
  omega
set_option maxHeartbeats 8000000 in
theorem caseText_c (k : Cs) (A : Option Addr) (c : Nat) (hv : VC1 k) (w : World) (hC : (Kd.int .i16).C w A k.hs.length k.hs) (ht : Tab w) : Calls Tryz.prog 119 #[k.val A c] w (Ret w (.string (bS (csT k)))) := by
  have hbx := CsAt.box w k A c 74
  have hb0 : Below w.heap.size w (w.alloc (.cells #[.int .i16 k.wd, .int .i32 k.ld, .slice A k.hs.length c] 74)) := balloc (Below.refl _ _) _
  have HT := Aside0.mk (ht.below hb0)
  have HC := Aside0.mk (Kd.C_below hC hb0)
  have HV := Aside0.mk hv
  obtain ⟨xs, hxs⟩ : ∃ xs, [bS (dg k.wd), bS (dg k.ld)] ++ k.hs.map (fun n => bS (dg n)) = xs := ⟨_, rfl⟩
  have HXS := Aside0.mk hxs
  simp only [Cs.val]
  clear ht hv hC hxs
  go_enter Tryz.func119, Tryz.ntmps119
  go_wp2_with fail
  generalize World.alloc w _ = W1 at hbx hb0 HT HC ⊢
  generalize w.heap.size = g at hbx ⊢
  have HB0 := Aside0.mk hb0
  have HX := Aside0.mk hbx
  obtain ⟨c0, c1, c2⟩ := hbx
  clear hb0
  go_region_law (first
    | (refine str_append_lit (w0 := W1) rfl (by rfl) (.tmp 9) (.tmp 12) rfl _ (bS (dg k.wd)) (bS (dg k.ld)) (k.hs.map (fun n => bS (dg n))) _ _ _ rfl rfl (blk_below (blk_new wa _) he) HA.out.size HCE.out HE.out (by have := HV.out.n; omega) ?_; intro v9 w9 hR9 hB9; rw [HXS.out] at hR9; obtain ⟨A9, c9, rfl⟩ := Kd.R_slice hR9; have HR9 := Aside0.mk hR9; have HB9 := Aside0.mk hB9; clear hR9 hB9)
    | (refine str_append_lit (w0 := W1) rfl (by rfl) (.tmp 9) (.tmp 12) rfl _ (bS (dg k.wd)) (bS (dg k.ld)) (k.hs.map (fun n => bS (dg n))) _ _ _ rfl rfl (blk_below (blk_new wb _) he) HB.out.size HCE.out HE.out (by have := HV.out.n; omega) ?_; intro v9 w9 hR9 hB9; rw [HXS.out] at hR9; obtain ⟨A9, c9, rfl⟩ := Kd.R_slice hR9; have HR9 := Aside0.mk hR9; have HB9 := Aside0.mk hB9; clear hR9 hB9)
    | (refine str_append_lit (w0 := W1) rfl (by rfl) (.tmp 9) (.tmp 12) rfl _ (bS (dg k.wd)) (bS (dg k.ld)) (k.hs.map (fun n => bS (dg n))) _ _ _ rfl rfl (blk_new wa _) HA.out.size (Kd.C_alloc HCE.out _) (balloc HA.out _) (by have := HV.out.n; omega) ?_; intro v9 w9 hR9 hB9; rw [HXS.out] at hR9; obtain ⟨A9, c9, rfl⟩ := Kd.R_slice hR9; have HR9 := Aside0.mk hR9; have HB9 := Aside0.mk hB9; clear hR9 hB9)
    | (refine str_append_lit (w0 := W1) rfl (by rfl) (.tmp 9) (.tmp 12) rfl _ (bS (dg k.wd)) (bS (dg k.ld)) (k.hs.map (fun n => bS (dg n))) _ _ _ rfl rfl (blk_new wb _) HB.out.size (Kd.C_alloc HCE.out _) (balloc HB.out _) (by have := HV.out.n; omega) ?_; intro v9 w9 hR9 hB9; rw [HXS.out] at hR9; obtain ⟨A9, c9, rfl⟩ := Kd.R_slice hR9; have HR9 := Aside0.mk hR9; have HB9 := Aside0.mk hB9; clear hR9 hB9)
    | (refine str_append_lit (w0 := W1) rfl (by rfl) (.tmp 9) (.tmp 12) rfl _ (bS (dg k.wd)) (bS (dg k.ld)) (k.hs.map (fun n => bS (dg n))) _ _ _ rfl rfl (blk_new we _) HE.out.size (Kd.C_alloc HCE.out _) (balloc HE.out _) (by have := HV.out.n; omega) ?_; intro v9 w9 hR9 hB9; rw [HXS.out] at hR9; obtain ⟨A9, c9, rfl⟩ := Kd.R_slice hR9; have HR9 := Aside0.mk hR9; have HB9 := Aside0.mk hB9; clear hR9 hB9)
    | (go_simp; go_at_call 149; refine (dec16_c k.wd (by have := HV.out.wd; omega) (by have := HV.out.wd; omega) _ (HT.out.below (by first | exact bdrew (Below.refl _ _) | exact HB.out | exact HE.out))).mono ?_; rintro _ wa ⟨rfl, ha⟩; have HA := Aside0.mk (bstep (show Below W1.heap.size W1 _ by first | exact bdrew (Below.refl _ _) | exact HB.out | exact HE.out) ha); obtain ⟨da0, da1, da2⟩ := HX.out.below HA.out; have qa2 := fun (O : Obj) => (World.cell?_alloc_lt wa O ⟨g, 2, none⟩ (World.block_lt_of_cell? wa _ da2)).trans da2; try (have hE2 := Kd.C_below HCE.out ha; clear HCE; have HCE := Aside0.mk hE2; clear hE2))
    | (go_simp; go_at_call 166; refine (dec32_c k.ld (by have := HV.out.ld; omega) (by have := HV.out.ld; omega) _ (HT.out.below (by first | exact bdrew (Below.refl _ _) | exact HA.out | exact HE.out))).mono ?_; rintro _ wb ⟨rfl, hb⟩; have HB := Aside0.mk (bstep (show Below W1.heap.size W1 _ by first | exact bdrew (Below.refl _ _) | exact HA.out | exact HE.out) hb); obtain ⟨db0, db1, db2⟩ := HX.out.below HB.out; have qb2 := fun (O : Obj) => (World.cell?_alloc_lt wb O ⟨g, 2, none⟩ (World.block_lt_of_cell? wb _ db2)).trans db2; try (have hE2 := Kd.C_below HCE.out hb; clear HCE; have HCE := Aside0.mk hE2; clear hE2))
    | (go_simp; go_at_call 167; refine (eachDecH_c A c k.hs 149 (fun n => bS (dg n)) _ (Kd.C_below HC.out (by first | exact bdrew (Below.refl _ _) | exact HA.out | exact HB.out | exact balloc HA.out _ | exact balloc HB.out _)) (by have := HV.out.n; omega) ⟨_, Tryz.func149, rfl, rfl⟩ (fun W hW x hx => dec16_c x (by have := HV.out.h x hx; omega) (by have := HV.out.h x hx; omega) W ((HT.out.below (by first | exact bdrew (Below.refl _ _) | exact HA.out | exact HB.out | exact balloc HA.out _ | exact balloc HB.out _)).below hW))).mono ?_; rintro _ we ⟨ve, rfl, he, hRe⟩; have HE := Aside0.mk (bstep (show Below W1.heap.size W1 _ by first | exact bdrew (Below.refl _ _) | exact HA.out | exact HB.out | exact balloc HA.out _ | exact balloc HB.out _) he); obtain ⟨de0, de1, de2⟩ := HX.out.below HE.out; obtain ⟨Ae, ce, rfl⟩ := Kd.R_slice hRe; have hE9 := (Kd.R_reads' hRe).2.2; rw [List.length_map] at hE9; have HCE := Aside0.mk hE9; clear hE9;  clear hRe)
    | (go_simp; go_at_call 137; refine (join_R (csWs k) [32] _ W1 w9 (List.cons_ne_nil _ _) (by rw [show (csWs k).map bS = xs by rw [← HXS.out]; simp [csWs]]; exact HR9.out) (by have := HV.out.n; simp [csWs]; omega) (by rw [csT_join]; have := csT_len HV.out; omega)).mono ?_; rintro _ wj ⟨rfl, hj⟩))
  all_goals
    (have HJ := Aside0.mk (bstep HB0.out (bstep HB9.out hj))
     clear hj
     go_wp2
     go_ret
     exact ⟨ret_str (by rw [csT_join]), HJ.out⟩)
end Go.Proofs.YtgibcacciedobaaGreatDoor
end
section
/- A case's text: the reference's. -/
namespace Go.Proofs.YtgibcacciedobaaGreatDoor
open Go.RowKit Go.Proofs.YtgibcacciedobaaGreatDoorW.PrintWords Go.Proofs.YtgibcacciedobaaGreatDoorW.PrintMore
set_option linter.unusedVariables false
set_option linter.unusedSimpArgs false
set_option maxRecDepth 100000

/-- The text of a case up to some heights. -/
def csP (k : Cs) (n : Nat) : Bs := joinL 32 (dg k.wd :: dg k.ld :: (k.hs.take n).map dg)
theorem csP_end (k : Cs) : csP k k.hs.length = csT k := by unfold csP csT csWs; rw [List.take_length]
theorem csP_zero (k : Cs) : csP k 0 = dg k.wd ++ 32 :: dg k.ld := rfl
theorem csP_next {k : Cs} {n : Nat} {x : Int} (hx : k.hs[n]? = some x) : csP k (n + 1) = csP k n ++ 32 :: dg x := by
  unfold csP
  rw [take_snoc hx, List.map_append]
  exact joinL_snoc 32 (dg k.wd :: dg k.ld :: (k.hs.take n).map dg) (dg x) (List.cons_ne_nil _ _)
theorem csP_len {k : Cs} (h : VC1 k) (n : Nat) : (csP k n).length ≤ 100 := by
  have h1 : ∀ w, w ∈ (dg k.wd :: dg k.ld :: (k.hs.take n).map dg) → w.length ≤ 6 := by
    intro w hw
    rcases List.mem_cons.1 hw with rfl | hw
    · exact dg_len 5 (by have := h.wd; omega) (by have := h.wd; omega)
    · rcases List.mem_cons.1 hw with rfl | hw
      · exact dg_len 5 (by have := h.ld; omega) (by have := h.ld; omega)
      · obtain ⟨x, hx, rfl⟩ := List.mem_map.1 hw
        have := h.h x (List.mem_of_mem_take hx)
        exact dg_len 5 (by omega) (by omega)
  have h2 := joinL_len (c := 32) h1
  have := h.n
  unfold csP
  simp only [List.length_cons, List.length_map, List.length_take] at h2 ⊢
  omega
end Go.Proofs.YtgibcacciedobaaGreatDoor
end
section
/- CaseText: the program's and the reference's. -/
namespace Go.Proofs.YtgibcacciedobaaGreatDoor
open Go.RowKit Go.Proofs.YtgibcacciedobaaGreatDoorW.PrintWords Go.Proofs.YtgibcacciedobaaGreatDoorW.PrintMore
set_option linter.unusedVariables false
set_option linter.unusedSimpArgs false
set_option maxRecDepth 100000

def tC (k : Cs) : ByteArray := if vCase k = true then bS (csT k) else ⟨#[]⟩
set_option maxHeartbeats 2000000 in
theorem CaseText_c (k : Cs) (A : Option Addr) (c : Nat) (w : World) (hC : (Kd.int .i16).C w A k.hs.length k.hs) (ht : Tab w) : Calls Tryz.prog 49 #[k.val A c] w (Ret w (.string (tC k))) := by
  have hbx := CsAt.box w k A c 74
  have hb0 : Below w.heap.size w (w.alloc (.cells #[.int .i16 k.wd, .int .i32 k.ld, .slice A k.hs.length c] 74)) := balloc (Below.refl _ _) _
  have HT := Aside0.mk ht
  have HC := Aside0.mk hC
  have HI := Aside0.mk (fun W h => ValidCase_c k A c W h)
  simp only [Cs.val] at HI ⊢
  clear ht hC
  cases hv : vCase k
  · have HV := Aside0.mk (show tC k = ⟨#[]⟩ by unfold tC; rw [hv]; rfl)
    rw [hv] at HI
    clear hv
    go_enter Tryz.func49, Tryz.ntmps49
    go_wp2_with fail
    generalize World.alloc w _ = W1 at hbx hb0 ⊢
    generalize w.heap.size = g at hbx ⊢
    have HB0 := Aside0.mk hb0
    obtain ⟨c0, c1, c2⟩ := hbx
    clear hb0
    go_wp2_with (go_at_call 54; refine (HI.out _ (Kd.C_below HC.out HB0.out)).mono ?_; rintro _ w2 ⟨rfl, hb2⟩)
    go_ret
    exact ⟨ret_str HV.out.symm, bstep HB0.out hb2⟩
  · have HV := Aside0.mk (show tC k = bS (csT k) by unfold tC; rw [hv]; rfl)
    have HQ := Aside0.mk (fun W h1 h2 => caseText_c k A c (vC1 hv) W h1 h2)
    rw [hv] at HI
    simp only [Cs.val] at HQ
    clear hv
    go_enter Tryz.func49, Tryz.ntmps49
    go_wp2_with fail
    generalize World.alloc w _ = W1 at hbx hb0 ⊢
    generalize w.heap.size = g at hbx ⊢
    have HB0 := Aside0.mk hb0
    have HX := Aside0.mk hbx
    obtain ⟨c0, c1, c2⟩ := hbx
    clear hb0
    go_wp2_with fail
    refine (HI.out _ (Kd.C_below HC.out HB0.out)).mono ?_; rintro _ w2 ⟨rfl, hb2⟩
    have HB2 := Aside0.mk (bstep HB0.out hb2)
    clear c0 c1 c2
    obtain ⟨c0, c1, c2⟩ := HX.out.below hb2
    clear hb2
    go_wp2_with fail
    refine (HQ.out _ (Kd.C_below HC.out HB2.out) (HT.out.below HB2.out)).mono ?_; rintro _ w3 ⟨rfl, hb3⟩
    go_wp2
    go_ret
    exact ⟨ret_str HV.out.symm, bstep HB2.out hb3⟩
end Go.Proofs.YtgibcacciedobaaGreatDoor
end
section
/- A region that draws its order, some of whose operations lay a block that others read: the quiet ones are taken first, from whatever world has grown out of the base. -/
namespace Go.Proofs.YtgibcacciedobaaGreatDoor
open Go.RowKit Go.Proofs.YtgibcacciedobaaGreatDoorW.PrintWords Go.Proofs.YtgibcacciedobaaGreatDoorW.PrintMore
set_option linter.unusedVariables false
set_option linter.unusedSimpArgs false
set_option maxRecDepth 100000

section
variable {P : Program} {ops : Array Oper} {md : Region.Mode} {Q : Exit → Act → World → Prop}
/-- w has grown out of b, what b holds kept. -/
abbrev Ov (b w : World) : Prop := Below b.heap.size b w
theorem Ov.step {a b c : World} (h : Ov a b) (k : Ov b c) : Ov a c := bstep h k
/-- From whatever base above b, the operation yields v in every world above that base, and leaves one. -/
def YG (P : Program) (ops : Array Oper) (G : World → World → Prop) (b : World) (o : Oper) (v : Value) (a : Act) : Prop := ∀ b', G b b' → YieldsIn P ops (Ov b') o v a
/-- What the other operations keep. -/
structure Keep (G : World → World → Prop) : Prop where
  of : ∀ {b w}, Ov b w → G b w
  step : ∀ {a b c}, G a b → G b c → G a c
theorem Keep.ov : Keep Ov := ⟨fun h => h, fun h k => h.step k⟩
variable {G : World → World → Prop}
theorem YG.up (hG : Keep G) {b b' : World} {o : Oper} {v : Value} {a : Act} (h : YG P ops G b o v a) (hb : G b b') : YG P ops G b' o v a := fun c hc => h c (hG.step hb hc)
theorem putY {j : Nat} {oi oj : Oper} {v : Value} {Y : Act → Prop} (hj : ops[j]? = some oj) (hap : oi.apart ops oj = true) (hsj : ∀ cs b, oj.op ≠ .select cs b)
    (keep : ∀ a, Y a → ∀ u, Y (a.put oj.dst u)) (keepD : ∀ a d, Y a → Y { a with defers := d :: a.defers }) (hQ : ∀ c a w, Q (.panic c) (a.put oi.dst v) w → Q (.panic c) a w)
    {K : Act → World → Prop} {a : Act} {w : World} (hy : Y a) (h : wpOp P ops Q j K (a.put oi.dst v) w) : wpOp P ops Q j (fun a' w' => Y a' ∧ K (a'.put oi.dst v) w') a w := by
  obtain ⟨h1, h2, h3⟩ := Oper.apart_spec hap
  unfold wpOp at *
  simp only [hj] at *
  rw [wanted_put oj a oi.dst v h1] at h
  split
  · rename_i hw
    simp only [hw, if_true] at h
    rcases h with h | ⟨hasks, hlets⟩
    case inr => exact .inr ⟨by unfold Oper.asks at *; rw [execOp_put oj hsj a oi.dst v h1] at hasks; exact hasks, hlets⟩
    refine .inl ?_
    unfold Oper.wp at *
    rw [execOp_put oj hsj a oi.dst v h1] at h
    generalize (execOp a.eval oj).run P w = r at *
    cases r with
    | ok n w' =>
      cases n <;> simp only [Oper.upon] at h ⊢
      case value u => exact ⟨keep a hy u, by rw [← Act.put_comm a v u h2]; exact h⟩
      case skip => exact ⟨keep a hy _, by rw [← Act.put_comm a v undef h2]; exact h⟩
      case defer d =>
        refine ⟨keep _ (keepD _ d hy) _, ?_⟩
        rw [← Act.put_comm _ v undef h2, ← Act.put_defers]
        exact h
      case enter f args =>
        refine Calls.mono h fun e w'' he => ?_
        cases e with
        | returned u => exact ⟨keep a hy u, by rw [← Act.put_comm a v u h2]; exact he⟩
        | panicked c => exact hQ _ _ _ he
        | outgrown => exact he
      case row row args => exact Rows.mono h fun u w'' he => ⟨keep a hy u, by rw [← Act.put_comm a v u h2]; exact he⟩
    | halt x w' =>
      cases x <;> simp only [Oper.upon] at h ⊢
      case panic u => exact hQ _ _ _ h
  · rename_i hw
    simp only [hw] at h
    exact ⟨keep a hy _, by rw [← Act.put_comm a v undef h2]; exact h⟩
/-- The operations ahead of n in whatever order, each from whatever world above the base; the world that it leaves is the next base. -/
def headO (P : Program) (md : Region.Mode) (ops : Array Oper) (G : World → World → Prop) (Q : Exit → Act → World → Prop) (n : Nat) (L : Array Bool → Act → World → Prop) : Nat → Array Bool → Act → World → Prop
  | 0, listed, a, b => L listed a b
  | f + 1, listed, a, b => Region.ready md ops listed ≠ [] ∧ ∀ i ∈ Region.ready md ops listed, i < n ∧ ∀ w, Ov b w → wpOp P ops Q i (fun a' w' => G w w' ∧ headO P md ops G Q n L f (listed.setIfInBounds i true) a' w') a w
theorem headO_up {n : Nat} {L : Array Bool → Act → World → Prop} (hL : ∀ listed a b b', Ov b b' → L listed a b → L listed a b') {b b' : World} (hb : Ov b b') :
    ∀ (f : Nat) (listed : Array Bool) (a : Act), headO P md ops G Q n L f listed a b → headO P md ops G Q n L f listed a b'
  | 0, _, _, h => hL _ _ _ _ hb h
  | _ + 1, _, _, h => ⟨h.1, fun i hi => ⟨(h.2 i hi).1, fun w hw => (h.2 i hi).2 w (hb.step hw)⟩⟩
theorem headO_any {n g : Nat} {L : Array Bool → Act → World → Prop} (hL : ∀ listed a w, L listed a w → wpAny P md ops Q g listed a w) :
    ∀ (f : Nat) (listed : Array Bool) (a : Act) (w : World), headO P md ops G Q n L f listed a w → wpAny P md ops Q (f + g) listed a w
  | 0, _, _, _, h => by rw [Nat.zero_add]; exact hL _ _ _ h
  | f + 1, _, _, w, h => by
    rw [Nat.add_right_comm]
    exact ⟨fun h0 => absurd h0 h.1, fun i hi => wpOp_mono (fun a' w' h' => headO_any hL f _ a' w' h'.2) ((h.2 i hi).2 w (Below.refl _ _))⟩
theorem YG.op (hG : Keep G) {b : World} {i : Nat} {o : Oper} {v : Value} {a : Act} {K : Act → World → Prop} (hi : ops[i]? = some o) (hy : YG P ops G b o v a) (hK : ∀ w, Ov b w → K (a.put o.dst v) w) (w : World) (hw : Ov b w) :
    wpOp P ops Q i (fun a' w' => G w w' ∧ K a' w') a w :=
  wpOp_of_qOp (C := Ov w) (K := fun a' => a' = a.put o.dst v) (Below.refl _ _) (fun a' w' h1 h2 => ⟨hG.of h1, by rw [h2]; exact hK w' (hw.step h1)⟩) ((hy w (hG.of hw)).qOp hi rfl)
theorem headO_first (hG : Keep G) {n i : Nat} {oi : Oper} {v : Value} {L : Array Bool → Act → World → Prop} (hi : ops[i]? = some oi) (hsel : ∀ (j : Nat) (o : Oper) cs b, ops[j]? = some o → o.op ≠ .select cs b)
    (hQ : ∀ c a w, Q (.panic c) (a.put oi.dst v) w → Q (.panic c) a w)
    (hs : Region.sinkB md ops n = true) (hc : Region.chainB md ops n = true) (hn : n < ops.size) (hin : i < n) (hL : ∀ listed a b, L listed a b → ∀ j ∈ Region.ready md ops listed, n ≤ j)
    (hLu : ∀ listed a b b', Ov b b' → L listed a b → L listed a b') (f : Nat) :
    ∀ (listed : Array Bool) (a : Act) (b : World), HeadInv md ops n listed →
      (∀ j oj, ops[j]? = some oj → j ≠ i → listed.getD j true = false → (∀ e ∈ oj.after, Region.binds md e = true → e.on ≠ i) → oi.apart ops oj = true) →
      i ∈ Region.ready md ops listed → YG P ops G b oi v a → headO P md ops G Q n L f (listed.setIfInBounds i true) (a.put oi.dst v) b → headO P md ops G Q n L (f + 1) listed a b := by
  induction f with
  | zero =>
    intro listed a b inv _ hr hy H
    refine ⟨fun h => (by rw [h] at hr; cases hr), fun j hj => ?_⟩
    by_cases hji : j = i
    · subst hji
      exact ⟨hin, hy.op hG hi (fun w hw => hLu _ _ _ _ hw H)⟩
    · have h1 := hL _ _ _ H j (ready_mono hj hji)
      exact absurd hj (tail_waits hs hc hn inv _ i rfl hin (mem_ready.1 hr).1 j h1)
  | succ f ih =>
    intro listed a b inv hfree hr hy H
    have hun := (mem_ready.1 hr).1
    refine ⟨fun h => (by rw [h] at hr; cases hr), fun j hj => ?_⟩
    by_cases hji : j = i
    · subst hji
      exact ⟨hin, hy.op hG hi (fun w hw => headO_up hLu hw _ _ _ H)⟩
    · obtain ⟨hjn, h1⟩ := H.2 j (ready_mono hj hji)
      refine ⟨hjn, fun w hw => ?_⟩
      obtain ⟨hjun, oj, hoj, hall⟩ := mem_ready.1 hj
      have hno : ∀ e ∈ oj.after, Region.binds md e = true → e.on ≠ i := fun e he hb heq => by
        have h2 := hall e he hb
        rw [heq, getD_both hun] at h2
        cases h2
      have hap := hfree j oj hoj hji hjun hno
      obtain ⟨p1, p2, p3⟩ := Oper.apart_spec hap
      have h2 := putY (Q := Q) (Y := fun a' => YG P ops G b oi v a') hoj hap (fun cs c => hsel j oj cs c hoj)
        (fun a' hy' u b' hb' => (hy' b' hb').of_same (execOp_put oi (fun cs c => hsel i oi cs c hi) a' oj.dst u p3) (wanted_put oi a' oj.dst u p3))
        (fun a' d hy' b' hb' => (hy' b' hb').of_same rfl rfl) hQ hy (h1 w hw)
      refine wpOp_mono (fun a' w' h3 => ⟨h3.2.1, ih (listed.setIfInBounds j true) a' w' (inv.set hj hjn) (fun k ok hk hki hkun hkno => ?_) (ready_mono hr (Ne.symm hji)) (h3.1.up hG (hG.step (hG.of hw) h3.2.1)) ?_⟩) h2
      · refine hfree k ok hk hki ?_ hkno
        by_cases hjk : j = k
        · rw [← hjk]
          exact hjun
        · rwa [getD_set_ne true hjk] at hkun
      · rw [Array.setIfInBounds_comm _ _ hji]
        exact h3.2.2
/-- The walk's state: what is listed has come up. -/
def HO (P : Program) (md : Region.Mode) (l : List Oper) (G : World → World → Prop) (Q : Exit → Act → World → Prop) (n f : Nat) (listed : Array Bool) (a : Act) (b : World) : Prop :=
  HeadInv md l.toArray n listed → headO P md l.toArray G Q n (fun listed' a' b' => Region.seqB md l.toArray (l.toArray.size - n) n listed' = true ∧ ∀ w, Ov b' w → wpList P l.toArray Q (l.drop n) a' w) f listed a b
def sideB (md : Region.Mode) (l : List Oper) (n : Nat) : Bool := Region.noSelect l.toArray && decide (n < l.toArray.size) && Region.sinkB md l.toArray n && Region.chainB md l.toArray n
theorem HO_take (hG : Keep G) {l : List Oper} {n f i : Nat} {listed : Array Bool} {a : Act} {b : World} {oi : Oper} {v : Value} (hi : l.toArray[i]? = some oi) (hB : sideB md l n = true) (hf : Region.free md l.toArray listed i = true)
    (hr : (Region.ready md l.toArray listed).contains i = true) (hin : i < n) (hQ : ∀ c a w, Q (.panic c) (a.put oi.dst v) w → Q (.panic c) a w)
    (hy : YG P l.toArray G b oi v a) (H : HO P md l G Q n f (listed.setIfInBounds i true) (a.put oi.dst v) b) : HO P md l G Q n (f + 1) listed a b := by
  simp only [sideB, Bool.and_eq_true, decide_eq_true_eq] at hB
  obtain ⟨⟨⟨hsel, hn⟩, hs⟩, hc⟩ := hB
  intro inv
  have hr' : i ∈ Region.ready md l.toArray listed := by simpa using hr
  exact headO_first hG hi (Region.noSelect_spec hsel) hQ hs hc hn hin (fun _ _ _ hL => seqB_ready hL.1) (fun _ _ _ _ hb hL => ⟨hL.1, fun w hw => hL.2 w (hb.step hw)⟩) f listed a b inv (Region.free_spec hi hf) hr' hy (H (inv.set hr' hin))
/-- The one operation that may come up. -/
theorem HO_one {l : List Oper} {n f i : Nat} {listed : Array Bool} {a : Act} {b : World} (hr : Region.ready md l.toArray listed = [i]) (hin : i < n)
    (H : ∀ w, Ov b w → wpOp P l.toArray Q i (fun a' w' => G w w' ∧ HO P md l G Q n f (listed.setIfInBounds i true) a' w') a w) : HO P md l G Q n (f + 1) listed a b := by
  intro inv
  have hm : i ∈ Region.ready md l.toArray listed := by rw [hr]; exact List.mem_singleton.2 rfl
  refine ⟨by rw [hr]; simp, fun j hj => ?_⟩
  rw [hr, List.mem_singleton] at hj
  subst hj
  exact ⟨hin, fun w hw => wpOp_mono (fun a' w' h => ⟨h.1, h.2 (inv.set hm hin)⟩) (H w hw)⟩
/-- .. walked. -/
theorem HO_step {l : List Oper} {n f i : Nat} {listed : Array Bool} {a : Act} {b : World} {oi : Oper} (hi : l.toArray[i]? = some oi) (hr : Region.ready md l.toArray listed = [i]) (hin : i < n) (hw : Region.wanted oi (yielded l.toArray a.tmps) = true)
    (H : ∀ w, Ov b w → ∀ K : Act → World → Prop, (∀ a' w', G w w' → HO P md l G Q n f (listed.setIfInBounds i true) a' w' → K a' w') → oi.wp P a w K Q) : HO P md l G Q n (f + 1) listed a b :=
  HO_one hr hin (fun w hb => by
    unfold wpOp
    simp only [hi, hw, if_true]
    exact .inl (H w hb _ (fun _ _ h1 h2 => ⟨h1, h2⟩)))
/-- Two may come up. -/
theorem HO_step2 {l : List Oper} {n f i j : Nat} {listed : Array Bool} {a : Act} {b : World} {oi oj : Oper} (hi : l.toArray[i]? = some oi) (hj : l.toArray[j]? = some oj) (hr : Region.ready md l.toArray listed = [i, j]) (hin : i < n) (hjn : j < n)
    (hw : Region.wanted oi (yielded l.toArray a.tmps) = true) (hw' : Region.wanted oj (yielded l.toArray a.tmps) = true)
    (H : ∀ w, Ov b w → ∀ K : Act → World → Prop, (∀ a' w', G w w' → HO P md l G Q n f (listed.setIfInBounds i true) a' w' → K a' w') → oi.wp P a w K Q)
    (H' : ∀ w, Ov b w → ∀ K : Act → World → Prop, (∀ a' w', G w w' → HO P md l G Q n f (listed.setIfInBounds j true) a' w' → K a' w') → oj.wp P a w K Q) : HO P md l G Q n (f + 1) listed a b := by
  intro inv
  refine ⟨by rw [hr]; simp, fun k hk => ?_⟩
  have hm : i ∈ Region.ready md l.toArray listed ∧ j ∈ Region.ready md l.toArray listed := by rw [hr]; exact ⟨by simp, by simp⟩
  rw [hr] at hk
  rcases List.mem_cons.1 hk with rfl | hk
  · refine ⟨hin, fun w hb => ?_⟩
    unfold wpOp
    simp only [hi, hw, if_true]
    exact .inl (H w hb _ (fun _ _ h1 h2 => ⟨h1, h2 (inv.set hm.1 hin)⟩))
  · obtain rfl := List.mem_singleton.1 hk
    refine ⟨hjn, fun w hb => ?_⟩
    unfold wpOp
    simp only [hj, hw', if_true]
    exact .inl (H' w hb _ (fun _ _ h1 h2 => ⟨h1, h2 (inv.set hm.2 hjn)⟩))
theorem HO_end {l : List Oper} {n : Nat} {listed : Array Bool} {a : Act} {b : World} (hB : Region.seqB md l.toArray (l.toArray.size - n) n listed = true) (H : ∀ w, Ov b w → wpList P l.toArray Q (l.drop n) a w) : HO P md l G Q n 0 listed a b :=
  fun _ => ⟨hB, H⟩
theorem region_HO {id : Nat} {a : Act} {w : World} {l : List Oper} (n : Nat) (hm : P.follows .mixedOrders = true) (hB : sideB .any l n = true) (H : HO P .any l G Q n n (Array.replicate l.toArray.size false) a w.drew) : (Code.region id l.toArray true).wp P Q a w := by
  simp only [sideB, Bool.and_eq_true, decide_eq_true_eq] at hB
  obtain ⟨⟨⟨hsel, hn⟩, hs⟩, hc⟩ := hB
  have h := H ⟨by simp, fun j oj _ hl => (by rw [getD_replicate_false] at hl; cases hl), fun t _ ht => getD_in (by simpa using ht) (getD_replicate_false _ _)⟩
  refine wp_region_any hm ?_
  have e2 : (l.drop n).length = l.toArray.size - n := by simp
  have := headO_any (g := l.toArray.size - n) (fun listed a' w' hL => by
    have := wpAny_of_seq (md := .any) (Q' := Q) (l.drop n) n listed a' w' (fun j => by simp [List.getElem?_drop]) (by rw [e2]; exact hL.1) (hL.2 w' (Below.refl _ _))
    rwa [e2] at this) _ _ _ w.drew h
  rw [show n + (l.toArray.size - n) = l.toArray.size by have := hn; omega] at this
  exact this
end
end Go.Proofs.YtgibcacciedobaaGreatDoor
end
section
/- ReadCase: the program's. -/
namespace Go.Proofs.YtgibcacciedobaaGreatDoor
open Go.RowKit Go.Proofs.YtgibcacciedobaaGreatDoorW.PrintWords Go.Proofs.YtgibcacciedobaaGreatDoorW.PrintMore
set_option linter.unusedVariables false
set_option linter.unusedSimpArgs false
set_option maxRecDepth 100000

section
variable {ops : Array Oper} {rest : List Oper} {o : Oper} {a : Act} {Q : Exit → Act → World → Prop}
/-- append(out, n). -/
theorem i16_append {w W : World} (hgd : o.guard = none) (s x : Operand) (ho : o.op = .call { callee := .builtin .append, args := #[s, x], argTypes := #[72, 72] }) (v : Value) (xs : List Int) (n : Int)
    (hs : a.eval s = v) (hx : a.eval x = .slice (some ⟨W.heap.size, 0, none⟩) 1 1) (HO : (Kd.int .i16).R 27 W w.heap.size (fun _ => True) v xs) (HB : Below w.heap.size w W) (hl : xs.length ≤ 2097152)
    (h : ∀ v1 w1, (Kd.int .i16).R 27 w1 w.heap.size (fun _ => True) v1 (xs ++ [n]) → Below w.heap.size w w1 → W.grownBy w1 v.ownBlock → wpList Tryz.prog ops Q rest (a.put o.dst v1) w1) :
    wpList Tryz.prog ops Q (o :: rest) a (W.alloc (.cells #[.int .i16 n] 27)) :=
  Kd.R_append (Kd.int .i16) (w0 := w) w.heap.size hgd s x 72 27 (.int .i16 0) 2 ho Tryz.underlying72 (by kernel_rfl) rfl (by decide) (by decide) v xs n [.int .i16 n] (fun _ => True) (fun _ => False) hs hx rfl (fun _ h => h.elim) (fun _ _ => trivial) HO HB HB.size (by omega)
    (fun v1 w1 h1 h2 h3 _ => h v1 w1 h1 h2 h3)
end
theorem at_bs {L : List ByteArray} {w : World} {A : Option Addr} {n : Nat} (h : Kd.string.C w A n L) (i : Nat) (hi : i < n) (hn : n = L.length) :
    ∃ ad x, A = some ad ∧ Aside0 (L[i]? = some x) ∧ w.cell? (ad.add i) = some (.string x) := by
  obtain ⟨ad, e, hx⟩ := Kd.at_string h (i : Int) (by omega) (by omega)
  have hl : i < L.length := by omega
  refine ⟨ad, L[i], e, ⟨List.getElem?_eq_getElem hl⟩, ?_⟩
  rw [Int.toNat_natCast] at hx
  rw [hx]
  unfold Go.Proofs.YtgibcacciedobaaGreatDoorW.PrintWords.rdOf
  rw [Int.toNat_natCast, List.getD_eq_getElem?_getD, List.getElem?_eq_getElem hl]
  rfl

set_option maxHeartbeats 2000000 in
theorem eachShD_c (A : Option Addr) (c : Nat) (L : List ByteArray) (f : FuncId) (p : ByteArray → Int) (w : World) (hL : Kd.string.C w A L.length L) (hn : L.length ≤ 2097152) (hfn : Fun Tryz.prog f)
    (hf : ∀ W, Below w.heap.size w W → ∀ x, x ∈ L → Calls Tryz.prog f (#[] ++ #[.string x]) W (Ret W (.int .i16 (p x)))) :
    Calls Tryz.prog 118 #[.slice A L.length c, .func (.func f) #[] #[]] w (RetQ w (fun v w' => (Kd.int .i16).R 27 w' w.heap.size (fun _ => True) v (L.map p))) := by
  have hm := Kd.C_max hL
  have hcf := hfn.run
  have HF := Aside0.mk hf
  have HX := Aside0.mk hL
  clear hf hfn hL
  go_enter Tryz.func118, Tryz.ntmps118
  go_wp2_with fail
  go_loopg [5, 10] L.length (fun gk v5 v10 wr => ∃ s : Nat, s + gk = L.length ∧ v10 = .int .i64 s ∧ Aside0 ((Kd.int .i16).R 27 wr w.heap.size (fun _ => True) v5 ((L.take s).map p)) ∧ Aside0 (Below w.heap.size w wr))
  case atStart => exact ⟨0, by omega, rfl, ⟨Kd.R_nil _ _ _ _ _⟩, ⟨Below.refl _ _⟩⟩
  case round =>
    obtain ⟨s, hk, rfl, HR, hb⟩ := hrel
    have HK := Aside0.mk hk
    by_cases hlt : s < L.length
    · obtain ⟨ad, x, rfl, hbk, hx⟩ := at_bs (Kd.C_below HX.out hb.out) s (by omega) rfl
      have HC := Aside0.mk (HF.out wr hb.out x (mem_of hbk.out))
      have HT := Aside0.mk (show (L.take (s + 1)).map p = (L.take s).map p ++ [p x] by rw [take_snoc hbk.out, List.map_append]; rfl)
      have i0 : (0 : Int) ≤ (s : Int) := by omega
      have i1 : (s : Int) < (L.length : Int) := by omega
      have hlen : ((L.take s).map p).length ≤ 2097152 := by rw [List.length_map, List.length_take]; omega
      generalize p x = z at HC HT
      clear hk
      go_wp2_with fail
      refine HC.out.mono ?_; rintro _ w3 ⟨rfl, hb3⟩
      have HR3 := Aside0.mk (Kd.R_below HR.out hb3)
      have HB3 := Aside0.mk (bstep hb.out hb3)
      clear hb3
      go_wp2_with (at_builtin; refine i16_append (w := w) rfl (.tmp 14) (.tmp 18) rfl _ ((L.take s).map p) z rfl rfl HR3.out HB3.out hlen ?_; intro v1 w9 hR1 hB1 _; have HR9 := Aside0.mk hR1; have HB9 := Aside0.mk hB1; clear hR1 hB1)
      go_roundg (gk - 1)
      case measure => have := HK.out; omega
      case rel => exact ⟨s + 1, by have := HK.out; omega, by go_num, ⟨by rw [HT.out]; exact HR9.out⟩, HB9⟩
    · have hs : L.take s = L := List.take_of_length_le (by omega)
      rw [hs] at HR
      clear hk hs
      go_wp2
      go_ret
      exact ⟨_, rfl, hb.out, HR.out⟩

theorem eachShort_c (A : Option Addr) (c : Nat) (r : List Bs) (w : World) (hC : Kd.string.C w A r.length (r.map bS)) (hn : r.length ≤ 2097152) (hl : ∀ t ∈ r, t.length ≤ 1048576) (ht : Txt w) :
    Calls Tryz.prog 118 #[.slice A r.length c, .func (.func 117) #[] #[]] w (RetQ w (fun v w' => (Kd.int .i16).R 27 w' w.heap.size (fun _ => True) v (r.map shN))) := by
  have h := eachShD_c A c (r.map bS) 117 (fun x => shN x.data.toList) w (by rw [List.length_map]; exact hC) (by rw [List.length_map]; exact hn) ⟨_, Tryz.func117, rfl, rfl⟩ (fun W hW x hx => by
    obtain ⟨t, hm, rfl⟩ := List.mem_map.1 hx
    rw [bS_toList]
    exact short_c t (hl t hm) W (ht.below hW))
  rw [List.length_map, List.map_map] at h
  have e : r.map ((fun x : ByteArray => shN x.data.toList) ∘ bS) = r.map shN := List.map_congr_left (fun t _ => by show shN (bS t).data.toList = shN t; rw [bS_toList])
  rw [e] at h
  exact h
abbrev Cs0 : Cs := ⟨0, 0, []⟩
open Classical in
/-- The case of a text, none if there is none. -/
noncomputable def crV (l : Bs) : Cs := if h : ∃ k, RdC l k then Classical.choose h else Cs0
open Classical in
noncomputable def crE (l : Bs) : Int := if ∃ k, RdC l k then 0 else 5
theorem cr_ok {l : Bs} {k : Cs} (h : RdC l k) : crV l = k ∧ crE l = 0 := by
  have hx : ∃ k, RdC l k := ⟨k, h⟩
  unfold crV crE
  rw [dif_pos hx, if_pos hx]
  exact ⟨(Classical.choose_spec hx).unique h, rfl⟩
theorem cr_no {l : Bs} (h : ∀ k, ¬ RdC l k) : crV l = Cs0 ∧ crE l = 5 := by
  have hx : ¬ ∃ k, RdC l k := fun ⟨k, hk⟩ => h k hk
  unfold crV crE
  rw [dif_neg hx, if_neg hx]
  exact ⟨rfl, rfl⟩
theorem cr_of {l : Bs} {k : Cs} {n : Int} (h : CsR l k n 5) : crV l = k ∧ crE l = n := by
  rcases h with ⟨rfl, h⟩ | ⟨rfl, rfl, h⟩
  · exact cr_ok h
  · exact cr_no h
/-- A case handed back, its row new, and a code. -/
def TupC (w : World) (k : Cs) (e : Int) (v : Value) (w' : World) : Prop := ∃ A c, v = .tuple #[k.val A c, .int .i64 e] ∧ k.hs.length ≤ c ∧ (Kd.int .i16).R 27 w' w.heap.size (fun _ => True) (.slice A k.hs.length c) k.hs
theorem tupC_no {w : World} {l : Bs} (h : crV l = Cs0 ∧ crE l = 5) {W : World} : TupC w (crV l) (crE l) (.tuple #[Cs0.val none 0, .int .i64 5]) W := by
  rw [h.1, h.2]
  exact ⟨none, 0, rfl, Nat.le_refl _, Kd.R_nil _ _ _ _ _⟩
theorem splitL_mem32 (c : UInt8) : ∀ (l : Bs) (w : Bs), w ∈ splitL c l → w.length ≤ l.length
  | [], w, h => by rw [splitL, List.mem_singleton] at h; rw [h]; exact Nat.le_refl _
  | x :: l, w, h => by
    have ih := splitL_mem32 c l
    rw [splitL] at h
    split at h
    · rcases List.mem_cons.1 h with rfl | h
      · exact Nat.zero_le _
      · exact Nat.le_succ_of_le (ih w h)
    · split at h
      · rw [List.mem_singleton] at h
        rw [h]
        simp
      · rename_i v r hs
        rcases List.mem_cons.1 h with rfl | h
        · have := ih v (by rw [hs]; simp)
          simp only [List.length_cons]
          omega
        · exact Nat.le_succ_of_le (ih w (by rw [hs]; simp [h]))
theorem two_up {α : Type} {l : List α} (h : 2 ≤ l.length) : ∃ a b r, l = a :: b :: r := by
  match l, h with
  | a :: b :: r, _ => exact ⟨a, b, r, rfl⟩
/-- A case stored over a case. -/
def put3c (W : World) (g : Nat) (a b : Int) (v : Value) : World := ((W.setCell ⟨g, 0, none⟩ (.int .i16 a)).setCell ⟨g, 1, none⟩ (.int .i32 b)).setCell ⟨g, 2, none⟩ v
theorem put3c_blk {W : World} {g : Nat} {t : TypeId} {z0 z1 z2 : Value} (a b : Int) (v : Value) (h : W.heap[g]? = some (.cells #[z0, z1, z2] t (0, 0))) : (put3c W g a b v).heap[g]? = some (.cells #[.int .i16 a, .int .i32 b, v] t (0, 0)) := by
  unfold put3c
  have h7 := blk_set (blk_set (blk_set h 0 (.int .i16 a)) 1 (.int .i32 b)) 2 v
  simpa only [List.setIfInBounds_toArray, List.set_cons_zero, List.set_cons_succ] using h7
theorem put3c_far {W : World} {g g' : Nat} {t : TypeId} {cs : Array Value} (a b : Int) (v : Value) (h : W.heap[g']? = some (.cells cs t (0, 0))) (hg : g' ≠ g) : (put3c W g a b v).heap[g']? = some (.cells cs t (0, 0)) :=
  blk_far (blk_far (blk_far h (p := ⟨g, 0, none⟩) hg _) (p := ⟨g, 1, none⟩) hg _) (p := ⟨g, 2, none⟩) hg _
theorem put3c_below {w W : World} {g : Nat} (a b : Int) (v : Value) (h : Below w.heap.size w W) (hg : w.heap.size ≤ g) : Below w.heap.size w (put3c W g a b v) := by
  unfold put3c
  exact Below.setCell (Below.setCell (Below.setCell h (p := ⟨g, 0, none⟩) hg _) (p := ⟨g, 1, none⟩) hg _) (p := ⟨g, 2, none⟩) hg _
set_option maxHeartbeats 2000000 in
theorem ReadCase_c (l : Bs) (hl : l.length ≤ 1048576) (w : World) (ht : Txt w) : Calls Tryz.prog 48 #[.string (bS l)] w (RetQ w (TupC w (crV l) (crE l))) := by
  have hb0 : Below w.heap.size w (w.alloc (.cells #[.int .i16 0, .int .i32 0, .slice none 0 0] 74)) := balloc (Below.refl _ _) _
  have hbx := blk_new w (.cells #[.int .i16 0, .int .i32 0, .slice none 0 0] 74)
  have HS := Aside0.mk (fun W h => split_c 32 l hl W h)
  have HML := Aside0.mk (fun x hx => Nat.le_trans (splitL_mem32 32 l x hx) hl)
  have HT := Aside0.mk (ht.below hb0)
  have HT0 := Aside0.mk ht
  clear ht
  have HW := Aside0.mk (fun W => withinL_c ((splitL 32 l).length : Int) 3 14 W)
  cases hi : inR ((splitL 32 l).length : Int) 3 14
  · have HN := Aside0.mk (cr_no (l := l) (fun k hk => by have := rdc_len hk; rw [show inR ((splitL 32 l).length : Int) 3 14 = true from inR_iff.2 ⟨by omega, by omega⟩] at hi; cases hi))
    rw [hi] at HW
    clear hi
    generalize splitL 32 l = ws at HS HML HW
    go_enter Tryz.func48, Tryz.ntmps48
    go_wp2_with fail
    generalize World.alloc w _ = W1 at hbx hb0 HT ⊢
    refine (HS.out W1 HT.out).mono ?_; rintro _ w1 ⟨_, rfl, hb1, A1, c1_, rfl, hc1, hC1⟩
    have HB1 := Aside0.mk (bstep hb0 hb1)
    have hx1 := blk_below hbx hb1
    clear hb1 hC1 hbx HT
    have c0 := blk_cell hx1 0
    have f0 := blk_frozen hx1 0
    have c1 := blk_cell hx1 1
    have f1 := blk_frozen hx1 1
    have c2 := blk_cell hx1 2
    have f2 := blk_frozen hx1 2
    simp only [List.getElem?_toArray, List.getElem?_cons_zero, List.getElem?_cons_succ] at c0 c1 c2
    go_wp2_with fail
    refine (HW.out _).mono ?_; rintro _ w2 ⟨rfl, rfl⟩
    go_wp2
    refine bodyPost_ret (v := .tuple #[Cs0.val none 0, .int .i64 5]) (by simp [results, Tryz.results48, go_sem, c0, c1, c2, f0, f1, f2, Cs.val]) rfl ⟨_, rfl, ?_, tupC_no HN.out⟩
    repeat (refine Below.setCell ?_ (by simp) _)
    exact HB1.out
  · obtain ⟨n1, n2⟩ := inR_iff.1 hi
    obtain ⟨a0, a1, r, hws⟩ := two_up (l := splitL 32 l) (by omega)
    have HR := Aside0.mk (cr_of (rdc_impl hws 5))
    rw [hi] at HW
    have hlen : (splitL 32 l).length = r.length + 2 := by rw [hws]; rfl
    rw [hws] at HS HML HW
    rw [hlen] at n1 n2
    obtain ⟨n, hn⟩ : ∃ n, r.length + 2 = n := ⟨_, rfl⟩
    have hln : (a0 :: a1 :: r).length = n := hn
    rw [hln] at HW
    rw [hn] at n1 n2
    clear hws hi hlen
    have HD := Aside0.mk (fun (a : Bs) (h : a.length ≤ 1048576) (W : World) (hw : Txt W) => short_c a h W hw)
    have l0 := HML.out a0 (by simp)
    have HRD := Aside0.mk (fun W h => readDec_c a1 (HML.out a1 (by simp)) W h)
    have HE := Aside0.mk (fun A c W (hC : Kd.string.C W A r.length (r.map bS)) h => eachShort_c A c r W hC (by omega) (fun t hm => HML.out t (by simp [hm])) h)
    have HK := Aside0.mk (show csOf a0 a1 r = ⟨shN a0, min (max (rdN a1) 0) 200001, r.map shN⟩ from rfl)
    rw [HK.out] at HR
    generalize rdN a1 = m at HRD HR
    generalize rdOk a1 = mk at HRD
    go_enter Tryz.func48, Tryz.ntmps48
    go_wp2_with fail
    generalize World.alloc w _ = W1 at hbx hb0 HT ⊢
    refine (HS.out W1 HT.out).mono ?_; rintro _ w1 ⟨_, rfl, hb1, A1, c1_, rfl, hc1, hC1⟩
    rw [hln] at hc1 hC1 ⊢
    have HB1 := Aside0.mk (bstep hb0 hb1)
    have HX1 := Aside0.mk (blk_below hbx hb1)
    have HT1 := Aside0.mk (HT.out.below hb1)
    have HC1 := Aside0.mk hC1
    obtain ⟨ad, x0, rfl, h0, e0⟩ := at_str (ws := a0 :: a1 :: r) hC1 0 (by omega) hln.symm
    obtain ⟨d1, x1, k1, h1, e1⟩ := at_str (ws := a0 :: a1 :: r) hC1 1 (by omega) hln.symm
    cases k1
    have h0 := h0.out; have h1 := h1.out
    cases h0; cases h1
    have e0 : w1.cell? ad = some (.string (bS a0)) := e0
    have e1 : w1.cell? ⟨ad.block, ad.off + 1, none⟩ = some (.string (bS a1)) := e1
    clear hb1 hC1 hbx HT hb0 HS
    go_wp2_with fail
    refine (HW.out _).mono ?_; rintro _ w2 ⟨rfl, rfl⟩
    have z0 : (1 : Int) < (n : Int) := by omega
    have z1 : (0 : Int) < (n : Int) := by omega
    have z2 : (2 : Int) ≤ (n : Int) := by omega
    have z3 : (n : Int) ≤ (c1_ : Int) := by omega
    have z4 : c1_ ≠ 2 := by omega
    have z5 : n ≤ c1_ := by omega
    have z6 : 2 ≤ n := by omega
    have z7 : 0 < n := by omega
    have z8 : 1 < n := by omega
    go_wp2_with fail
    refine (HRD.out w1 HT1.out).mono ?_; rintro _ w2 ⟨rfl, hb2⟩
    go_wp2_with fail
    have hbd : Below w1.heap.size w1 w2.drew := bdrew hb2
    have HB3 := Aside0.mk (bstep HB1.out hbd)
    have HX3 := Aside0.mk (blk_below HX1.out hbd)
    have HT3 := Aside0.mk (HT1.out.below hbd)
    have HC3 := Aside0.mk (Kd.C_below HC1.out hbd)
    have d0 := pw_cell_below hbd e0
    clear hb2 e0 e1 HB1 HX1 HT1 HC1 h0 h1
    refine region_HO (G := Ov) 13 (by kernel_rfl) (by kernel_rfl) ?_
    generalize World.drew w2 = wb at HB3 HX3 HT3 HC3 d0 ⊢
    clear hbd
    refine HO_take Keep.ov (i := 0) (v := ?_) rfl (by kernel_rfl) (by kernel_rfl) (by kernel_rfl) (by decide) (fun _ _ _ h => h) (fun b' hb' => Or.inl ⟨by kernel_rfl, fun W hW => ?_⟩) ?_
    rotate_left
    · have hW' := hb'.step hW
      go_simp
      with_reducible rfl
    refine HO_take Keep.ov (i := 1) (v := ?_) rfl (by kernel_rfl) (by kernel_rfl) (by kernel_rfl) (by decide) (fun _ _ _ h => h) (fun b' hb' => Or.inl ⟨by kernel_rfl, fun W hW => ?_⟩) ?_
    rotate_left
    · have hW' := hb'.step hW
      go_simp
      with_reducible rfl
    refine HO_take Keep.ov (i := 2) (v := ?_) rfl (by kernel_rfl) (by kernel_rfl) (by kernel_rfl) (by decide) (fun _ _ _ h => h) (fun b' hb' => Or.inl ⟨by kernel_rfl, fun W hW => ?_⟩) ?_
    rotate_left
    · have hW' := hb'.step hW
      have q_0 := pw_cell_below hW' d0
      go_simp
      with_reducible rfl
    refine HO_take Keep.ov (i := 3) (v := .int .i16 (shN a0)) rfl (by kernel_rfl) (by kernel_rfl) (by kernel_rfl) (by decide) (fun _ _ _ h => h) (fun b' hb' => Or.inl ⟨by kernel_rfl, fun W hW => ?_⟩) ?_
    · have hW' := hb'.step hW
      go_simp
      exact (HD.out a0 l0 W (HT3.out.below hW')).mono (fun _ _ h => ⟨h.1, hW.step h.2⟩)
    refine HO_take Keep.ov (i := 4) (v := ?_) rfl (by kernel_rfl) (by kernel_rfl) (by kernel_rfl) (by decide) (fun _ _ _ h => h) (fun b' hb' => Or.inl ⟨by kernel_rfl, fun W hW => ?_⟩) ?_
    rotate_left
    · have hW' := hb'.step hW
      go_simp
      with_reducible rfl
    refine HO_take Keep.ov (i := 5) (v := ?_) rfl (by kernel_rfl) (by kernel_rfl) (by kernel_rfl) (by decide) (fun _ _ _ h => h) (fun b' hb' => Or.inl ⟨by kernel_rfl, fun W hW => ?_⟩) ?_
    rotate_left
    · have hW' := hb'.step hW
      go_simp
      with_reducible rfl
    refine HO_take Keep.ov (i := 6) (v := ?_) rfl (by kernel_rfl) (by kernel_rfl) (by kernel_rfl) (by decide) (fun _ _ _ h => h) (fun b' hb' => Or.inl ⟨by kernel_rfl, fun W hW => ?_⟩) ?_
    rotate_left
    · have hW' := hb'.step hW
      go_simp
      with_reducible rfl
    refine HO_take Keep.ov (i := 7) (v := ?_) rfl (by kernel_rfl) (by kernel_rfl) (by kernel_rfl) (by decide) (fun _ _ _ h => h) (fun b' hb' => Or.inl ⟨by kernel_rfl, fun W hW => ?_⟩) ?_
    rotate_left
    · have hW' := hb'.step hW
      go_simp
      with_reducible rfl
    refine HO_take Keep.ov (i := 8) (v := ?_) rfl (by kernel_rfl) (by kernel_rfl) (by kernel_rfl) (by decide) (fun _ _ _ h => h) (fun b' hb' => Or.inl ⟨by kernel_rfl, fun W hW => ?_⟩) ?_
    rotate_left
    · have hW' := hb'.step hW
      go_simp
      with_reducible rfl
    refine HO_take Keep.ov (i := 9) (v := ?_) rfl (by kernel_rfl) (by kernel_rfl) (by kernel_rfl) (by decide) (fun _ _ _ h => h) (fun b' hb' => Or.inl ⟨by kernel_rfl, fun W hW => ?_⟩) ?_
    rotate_left
    · have hW' := hb'.step hW
      go_simp
      with_reducible rfl
    have HC4 := Aside0.mk (show Kd.string.C wb (some ⟨ad.block, ad.off + 2, none⟩) r.length (r.map bS) by
      have h := Kd.C_drop (c := c1_) (m := 2) (by have := HC3.out; rw [show n = ((a0 :: a1 :: r).map bS).length by rw [List.length_map, hln]] at this; exact this) (by simp) (by rw [List.length_map, hln]; omega)
      rw [if_neg z4] at h
      simp only [List.map_cons, List.drop_succ_cons, List.drop_zero, List.length_map] at h
      exact h)
    have iw : IntKind.i32.wrap (min (max m 0) 200001) = min (max m 0) 200001 := by
      have : 0 ≤ min (max m 0) 200001 ∧ min (max m 0) 200001 ≤ 200001 := by omega
      simp only [IntKind.wrap, IntKind.bits, IntKind.signed, Bool.true_and, decide_eq_true_eq, ge_iff_le]
      split <;> omega
    rw [iw]
    have hn2 : n - 2 = r.length := by omega
    rw [hn2]
    generalize min (max m 0) 200001 = m2 at HR ⊢
    generalize r.map shN = hs at HR HE
    generalize shN a0 = s0 at HR HD ⊢
    have hgw := Aside0.mk (blk_lt HX3.out)
    clear HC3 iw hn2 z0 z1 z2 z3 z4 z5 z6 z7 z8 HML HK
    refine HO_step2 (i := 10) (j := 12) rfl rfl (by kernel_rfl) (by decide) (by decide) (by kernel_rfl) (by kernel_rfl) (fun W hW K hK => ?_) (fun W hW K hK => ?_)
    · go_simp
      refine (HE.out _ _ W (Kd.C_below HC4.out hW) (HT3.out.below hW)).mono ?_
      rintro _ w7 ⟨v, rfl, hb7, hv⟩
      refine hK _ _ hb7 ?_
      clear hK K
      obtain ⟨A7, c7, rfl, hc7, _⟩ := Kd.R_reads hv
      have HW7 := Aside0.mk (hW.step hb7)
      have hs1 := Aside0.mk (show w.heap.size < W.heap.size by have := hgw.out; have := hW.size; omega)
      have HVB := Aside0.mk (Kd.R_bound hv)
      clear hv hb7 hW
      refine HO_take Keep.ov (i := 11) (v := ?_) rfl (by kernel_rfl) (by kernel_rfl) (by kernel_rfl) (by decide) (fun _ _ _ h => h) (fun b' hb' => Or.inl ⟨by kernel_rfl, fun W hW => ?_⟩) ?_
      rotate_left
      · have hW' := hb'.step hW
        go_simp
        with_reducible rfl
      refine HO_step (i := 12) rfl (by kernel_rfl) (by decide) (by kernel_rfl) (fun W2 hW2 K hK => ?_)
      go_simp
      refine hK _ _ (balloc (Below.refl _ _) _) ?_
      clear hK K
      have HY := Aside0.mk (blk_new W2 (.cells #[.int .i16 0, .int .i32 0, .slice none 0 0] 74))
      have hba := hW2.step (balloc (Below.refl W2.heap.size W2) (.cells #[.int .i16 0, .int .i32 0, .slice none 0 0] 74))
      have HW2 := Aside0.mk (HW7.out.step hba)
      have hgt := Aside0.mk (show w.heap.size < W2.heap.size by have := hgw.out; have := HW7.out.size; have := hW2.size; omega)
      have HV := Aside0.mk (show (Kd.int .i16).R 27 (W2.alloc (.cells #[.int .i16 0, .int .i32 0, .slice none 0 0] 74)) w.heap.size (fun k => k ≠ w.heap.size ∧ k ≠ W2.heap.size) (.slice A7 hs.length c7) hs from
        Kd.R_mono (Kd.R_lower (Kd.R_below HVB.out hba) (Nat.le_of_lt hs1.out)) (fun k hk => ⟨by have := hk.2.1; have := hs1.out; omega, by have := hk.2.2.1; have := hW2.size; omega⟩))
      clear hW2 hba HW7 HVB hs1
      generalize World.alloc W2 _ = W3 at HY HW2 HV ⊢
      generalize W2.heap.size = g8 at HY hgt HV ⊢
      refine HO_end (by kernel_rfl) (fun W hW => ?_)
      have hx := blk_below (blk_below HX3.out HW2.out) hW
      have hy := blk_below HY.out hW
      have HB4 := Aside0.mk (bstep HB3.out (HW2.out.step hW))
      have HX4 := Aside0.mk hx
      have HV4 := Aside0.mk (Kd.R_below HV.out hW)
      clear hW HY HW2 HX3 HB3 HT3 hx HV d0 HE HD HRD
      have c0 := blk_cell hy 0
      have f0 := blk_frozen hy 0
      have c1 := blk_cell hy 1
      have f1 := blk_frozen hy 1
      have c2 := blk_cell hy 2
      have f2 := blk_frozen hy 2
      simp only [List.getElem?_toArray, List.getElem?_cons_zero, List.getElem?_cons_succ] at c0 c1 c2
      go_wp2_with fail
      have hy5 := put3c_blk s0 m2 (.slice A7 hs.length c7) hy
      have HX5 := Aside0.mk (put3c_far s0 m2 (.slice A7 hs.length c7) HX4.out (Nat.ne_of_lt hgt.out))
      have HB5 := Aside0.mk (put3c_below s0 m2 (.slice A7 hs.length c7) HB4.out (Nat.le_of_lt hgt.out))
      have HV5 := Aside0.mk (Kd.R_far (Kd.R_far (Kd.R_far HV4.out (p := ⟨g8, 0, none⟩) (fun k hk => hk.2) (.int .i16 s0)) (p := ⟨g8, 1, none⟩) (fun k hk => hk.2) (.int .i32 m2)) (p := ⟨g8, 2, none⟩) (fun k hk => hk.2) (.slice A7 hs.length c7))
      clear HB4 HX4 HV4 hy c0 c1 c2 f0 f1 f2
      change Calls _ _ _ (put3c W g8 s0 m2 (.slice A7 hs.length c7)) _
      change Aside0 ((Kd.int .i16).R 27 (put3c W g8 s0 m2 (.slice A7 hs.length c7)) w.heap.size (fun k => k ≠ w.heap.size ∧ k ≠ g8) (.slice A7 hs.length c7) hs) at HV5
      generalize put3c W g8 s0 m2 (.slice A7 hs.length c7) = W5 at hy5 HX5 HB5 HV5 ⊢
      have HC5 := Aside0.mk (Kd.R_reads' HV5.out).2.2
      have HI := Aside0.mk (fun W h => ValidCase_c ⟨s0, m2, hs⟩ A7 c7 W h)
      cases hv : vCase ⟨s0, m2, hs⟩
      · have HN := Aside0.mk (show crV l = Cs0 ∧ crE l = 5 by rw [HR.out.1, HR.out.2, hv]; exact ⟨rfl, rfl⟩)
        rw [hv] at HI
        clear hv
        refine (HI.out W5 HC5.out).mono ?_; rintro _ w6 ⟨rfl, hb6⟩
        have hx6 := blk_below HX5.out hb6
        have hy6 := blk_below hy5 hb6
        have HB6 := Aside0.mk (bstep HB5.out hb6)
        clear hb6 hy5
        have c0 := blk_cell hx6 0
        have f0 := blk_frozen hx6 0
        have c1 := blk_cell hx6 1
        have f1 := blk_frozen hx6 1
        have c2 := blk_cell hx6 2
        have f2 := blk_frozen hx6 2
        simp only [List.getElem?_toArray, List.getElem?_cons_zero, List.getElem?_cons_succ] at c0 c1 c2
        have d0 := blk_cell hy6 0
        have e0 := blk_frozen hy6 0
        have d1 := blk_cell hy6 1
        have e1 := blk_frozen hy6 1
        have d2 := blk_cell hy6 2
        have e2 := blk_frozen hy6 2
        simp only [List.getElem?_toArray, List.getElem?_cons_zero, List.getElem?_cons_succ] at d0 d1 d2
        go_wp2
        refine bodyPost_ret (v := .tuple #[Cs0.val none 0, .int .i64 5]) (by simp [results, Tryz.results48, go_sem, c0, c1, c2, f0, f1, f2, Cs.val]) rfl ⟨_, rfl, ?_, tupC_no HN.out⟩
        repeat (refine Below.setCell ?_ (by simp) _)
        exact HB6.out
      · have HQ := Aside0.mk (fun W h1 h2 => caseText_c ⟨s0, m2, hs⟩ A7 c7 (vC1 hv) W h1 h2)
        rw [hv] at HI
        refine (HI.out W5 HC5.out).mono ?_; rintro _ w6 ⟨rfl, hb6⟩
        have hx6 := blk_below HX5.out hb6
        have hy6 := blk_below hy5 hb6
        have HB6 := Aside0.mk (bstep HB5.out hb6)
        have HV6 := Aside0.mk (Kd.R_below HV5.out hb6)
        clear hb6 hy5 HX5 HB5 HV5 HC5
        have d0 := blk_cell hy6 0
        have e0 := blk_frozen hy6 0
        have d1 := blk_cell hy6 1
        have e1 := blk_frozen hy6 1
        have d2 := blk_cell hy6 2
        have e2 := blk_frozen hy6 2
        simp only [List.getElem?_toArray, List.getElem?_cons_zero, List.getElem?_cons_succ] at d0 d1 d2
        go_wp2_with fail
        clear d0 d1 d2 e0 e1 e2
        refine (HQ.out w6 (Kd.R_reads' HV6.out).2.2 (HT0.out.tab.below HB6.out)).mono ?_; rintro _ w7_ ⟨rfl, hb7⟩
        have hx6 := blk_below hx6 hb7
        have hy6 := blk_below hy6 hb7
        have HB6 := Aside0.mk (bstep HB6.out hb7)
        have HV6 := Aside0.mk (Kd.R_below HV6.out hb7)
        clear hb7
        cases he : (csT ⟨s0, m2, hs⟩ == l)
        · have HN := Aside0.mk (show crV l = Cs0 ∧ crE l = 5 by rw [HR.out.1, HR.out.2, hv, he]; exact ⟨rfl, rfl⟩)
          have hq : ((bS (csT ⟨s0, m2, hs⟩)).toList == (bS l).toList) = false := by rw [bS_list, bS_list]; exact he
          clear hv he
          have c0 := blk_cell hx6 0
          have f0 := blk_frozen hx6 0
          have c1 := blk_cell hx6 1
          have f1 := blk_frozen hx6 1
          have c2 := blk_cell hx6 2
          have f2 := blk_frozen hx6 2
          simp only [List.getElem?_toArray, List.getElem?_cons_zero, List.getElem?_cons_succ] at c0 c1 c2
          have d0 := blk_cell hy6 0
          have e0 := blk_frozen hy6 0
          have d1 := blk_cell hy6 1
          have e1 := blk_frozen hy6 1
          have d2 := blk_cell hy6 2
          have e2 := blk_frozen hy6 2
          simp only [List.getElem?_toArray, List.getElem?_cons_zero, List.getElem?_cons_succ] at d0 d1 d2
          go_wp2
          refine bodyPost_ret (v := .tuple #[Cs0.val none 0, .int .i64 5]) (by simp [results, Tryz.results48, go_sem, c0, c1, c2, f0, f1, f2, Cs.val]) rfl ⟨_, rfl, ?_, tupC_no HN.out⟩
          repeat (refine Below.setCell ?_ (by simp) _)
          exact HB6.out
        · have HN := Aside0.mk (show crV l = ⟨s0, m2, hs⟩ ∧ crE l = 0 by rw [HR.out.1, HR.out.2, hv, he]; exact ⟨rfl, rfl⟩)
          have hq : ((bS (csT ⟨s0, m2, hs⟩)).toList == (bS l).toList) = true := by rw [bS_list, bS_list]; exact he
          clear hv he
          have c0 := blk_cell hx6 0
          have f0 := blk_frozen hx6 0
          have c1 := blk_cell hx6 1
          have f1 := blk_frozen hx6 1
          have c2 := blk_cell hx6 2
          have f2 := blk_frozen hx6 2
          simp only [List.getElem?_toArray, List.getElem?_cons_zero, List.getElem?_cons_succ] at c0 c1 c2
          have d0 := blk_cell hy6 0
          have e0 := blk_frozen hy6 0
          have d1 := blk_cell hy6 1
          have e1 := blk_frozen hy6 1
          have d2 := blk_cell hy6 2
          have e2 := blk_frozen hy6 2
          simp only [List.getElem?_toArray, List.getElem?_cons_zero, List.getElem?_cons_succ] at d0 d1 d2
          go_wp2
          refine bodyPost_ret (v := .tuple #[.agg #[.int .i16 s0, .int .i32 m2, .slice A7 hs.length c7], .int .i64 0]) (by simp [results, Tryz.results48, go_sem, c0, c1, c2, f0, f1, f2, Cs.val]) rfl ⟨_, rfl, ?_, ?_⟩
          · repeat (refine Below.setCell ?_ (by simp) _)
            exact HB6.out
          · rw [HN.out.1, HN.out.2]
            exact ⟨A7, c7, rfl, hc7, Kd.R_mono (Kd.R_far (Kd.R_far (Kd.R_far HV6.out (p := ⟨w.heap.size, 0, none⟩) (fun k hk => hk.1) _) (p := ⟨w.heap.size, 1, none⟩) (fun k hk => hk.1) _) (p := ⟨w.heap.size, 2, none⟩) (fun k hk => hk.1) _) (fun _ _ => trivial)⟩
    · go_simp
      refine hK _ _ (balloc (Below.refl _ _) _) ?_
      clear hK K
      have hy := blk_new W (.cells #[.int .i16 0, .int .i32 0, .slice none 0 0] 74)
      have HW := Aside0.mk (hW.step (balloc (Below.refl W.heap.size W) (.cells #[.int .i16 0, .int .i32 0, .slice none 0 0] 74)))
      have hgt := Aside0.mk (show w.heap.size < W.heap.size by have := hgw.out; have := hW.size; omega)
      have hs3 := Aside0.mk (show W.heap.size < (W.alloc (.cells #[.int .i16 0, .int .i32 0, .slice none 0 0] 74)).heap.size by rw [World.size_alloc]; omega)
      clear hW
      generalize World.alloc W _ = W3 at hy HW hs3 ⊢
      generalize W.heap.size = g8 at hy hgt hs3 ⊢
      refine HO_step (i := 10) rfl (by kernel_rfl) (by decide) (by kernel_rfl) (fun W2 hW2 K hK => ?_)
      go_simp
      refine (HE.out _ _ W2 (Kd.C_below HC4.out (HW.out.step hW2)) (HT3.out.below (HW.out.step hW2))).mono ?_
      rintro _ w7 ⟨v, rfl, hb7, hv⟩
      refine hK _ _ hb7 ?_
      clear hK K
      obtain ⟨A7, c7, rfl, hc7, _⟩ := Kd.R_reads hv
      have hW7 := hW2.step hb7
      have HY := Aside0.mk (blk_below hy hW7)
      have HW2 := Aside0.mk (HW.out.step hW7)
      have HV := Aside0.mk (show (Kd.int .i16).R 27 w7 w.heap.size (fun k => k ≠ w.heap.size ∧ k ≠ g8) (.slice A7 hs.length c7) hs from
        Kd.R_mono (Kd.R_lower (Kd.R_bound hv) (by have := hgt.out; have := hs3.out; have := hW2.size; omega)) (fun k hk => ⟨by have := hk.2.1; have := hgt.out; have := hs3.out; have := hW2.size; omega, by have := hk.2.1; have := hs3.out; have := hW2.size; omega⟩))
      clear hv hb7 hW2 hW7 hy HW hs3
      refine HO_take Keep.ov (i := 11) (v := ?_) rfl (by kernel_rfl) (by kernel_rfl) (by kernel_rfl) (by decide) (fun _ _ _ h => h) (fun b' hb' => Or.inl ⟨by kernel_rfl, fun W hW => ?_⟩) ?_
      rotate_left
      · have hW' := hb'.step hW
        go_simp
        with_reducible rfl
      refine HO_end (by kernel_rfl) (fun W hW => ?_)
      have hx := blk_below (blk_below HX3.out HW2.out) hW
      have hy := blk_below HY.out hW
      have HB4 := Aside0.mk (bstep HB3.out (HW2.out.step hW))
      have HX4 := Aside0.mk hx
      have HV4 := Aside0.mk (Kd.R_below HV.out hW)
      clear hW HY HW2 HX3 HB3 HT3 hx HV d0 HE HD HRD
      have c0 := blk_cell hy 0
      have f0 := blk_frozen hy 0
      have c1 := blk_cell hy 1
      have f1 := blk_frozen hy 1
      have c2 := blk_cell hy 2
      have f2 := blk_frozen hy 2
      simp only [List.getElem?_toArray, List.getElem?_cons_zero, List.getElem?_cons_succ] at c0 c1 c2
      go_wp2_with fail
      have hy5 := put3c_blk s0 m2 (.slice A7 hs.length c7) hy
      have HX5 := Aside0.mk (put3c_far s0 m2 (.slice A7 hs.length c7) HX4.out (Nat.ne_of_lt hgt.out))
      have HB5 := Aside0.mk (put3c_below s0 m2 (.slice A7 hs.length c7) HB4.out (Nat.le_of_lt hgt.out))
      have HV5 := Aside0.mk (Kd.R_far (Kd.R_far (Kd.R_far HV4.out (p := ⟨g8, 0, none⟩) (fun k hk => hk.2) (.int .i16 s0)) (p := ⟨g8, 1, none⟩) (fun k hk => hk.2) (.int .i32 m2)) (p := ⟨g8, 2, none⟩) (fun k hk => hk.2) (.slice A7 hs.length c7))
      clear HB4 HX4 HV4 hy c0 c1 c2 f0 f1 f2
      change Calls _ _ _ (put3c W g8 s0 m2 (.slice A7 hs.length c7)) _
      change Aside0 ((Kd.int .i16).R 27 (put3c W g8 s0 m2 (.slice A7 hs.length c7)) w.heap.size (fun k => k ≠ w.heap.size ∧ k ≠ g8) (.slice A7 hs.length c7) hs) at HV5
      generalize put3c W g8 s0 m2 (.slice A7 hs.length c7) = W5 at hy5 HX5 HB5 HV5 ⊢
      have HC5 := Aside0.mk (Kd.R_reads' HV5.out).2.2
      have HI := Aside0.mk (fun W h => ValidCase_c ⟨s0, m2, hs⟩ A7 c7 W h)
      cases hv : vCase ⟨s0, m2, hs⟩
      · have HN := Aside0.mk (show crV l = Cs0 ∧ crE l = 5 by rw [HR.out.1, HR.out.2, hv]; exact ⟨rfl, rfl⟩)
        rw [hv] at HI
        clear hv
        refine (HI.out W5 HC5.out).mono ?_; rintro _ w6 ⟨rfl, hb6⟩
        have hx6 := blk_below HX5.out hb6
        have hy6 := blk_below hy5 hb6
        have HB6 := Aside0.mk (bstep HB5.out hb6)
        clear hb6 hy5
        have c0 := blk_cell hx6 0
        have f0 := blk_frozen hx6 0
        have c1 := blk_cell hx6 1
        have f1 := blk_frozen hx6 1
        have c2 := blk_cell hx6 2
        have f2 := blk_frozen hx6 2
        simp only [List.getElem?_toArray, List.getElem?_cons_zero, List.getElem?_cons_succ] at c0 c1 c2
        have d0 := blk_cell hy6 0
        have e0 := blk_frozen hy6 0
        have d1 := blk_cell hy6 1
        have e1 := blk_frozen hy6 1
        have d2 := blk_cell hy6 2
        have e2 := blk_frozen hy6 2
        simp only [List.getElem?_toArray, List.getElem?_cons_zero, List.getElem?_cons_succ] at d0 d1 d2
        go_wp2
        refine bodyPost_ret (v := .tuple #[Cs0.val none 0, .int .i64 5]) (by simp [results, Tryz.results48, go_sem, c0, c1, c2, f0, f1, f2, Cs.val]) rfl ⟨_, rfl, ?_, tupC_no HN.out⟩
        repeat (refine Below.setCell ?_ (by simp) _)
        exact HB6.out
      · have HQ := Aside0.mk (fun W h1 h2 => caseText_c ⟨s0, m2, hs⟩ A7 c7 (vC1 hv) W h1 h2)
        rw [hv] at HI
        refine (HI.out W5 HC5.out).mono ?_; rintro _ w6 ⟨rfl, hb6⟩
        have hx6 := blk_below HX5.out hb6
        have hy6 := blk_below hy5 hb6
        have HB6 := Aside0.mk (bstep HB5.out hb6)
        have HV6 := Aside0.mk (Kd.R_below HV5.out hb6)
        clear hb6 hy5 HX5 HB5 HV5 HC5
        have d0 := blk_cell hy6 0
        have e0 := blk_frozen hy6 0
        have d1 := blk_cell hy6 1
        have e1 := blk_frozen hy6 1
        have d2 := blk_cell hy6 2
        have e2 := blk_frozen hy6 2
        simp only [List.getElem?_toArray, List.getElem?_cons_zero, List.getElem?_cons_succ] at d0 d1 d2
        go_wp2_with fail
        clear d0 d1 d2 e0 e1 e2
        refine (HQ.out w6 (Kd.R_reads' HV6.out).2.2 (HT0.out.tab.below HB6.out)).mono ?_; rintro _ w7_ ⟨rfl, hb7⟩
        have hx6 := blk_below hx6 hb7
        have hy6 := blk_below hy6 hb7
        have HB6 := Aside0.mk (bstep HB6.out hb7)
        have HV6 := Aside0.mk (Kd.R_below HV6.out hb7)
        clear hb7
        cases he : (csT ⟨s0, m2, hs⟩ == l)
        · have HN := Aside0.mk (show crV l = Cs0 ∧ crE l = 5 by rw [HR.out.1, HR.out.2, hv, he]; exact ⟨rfl, rfl⟩)
          have hq : ((bS (csT ⟨s0, m2, hs⟩)).toList == (bS l).toList) = false := by rw [bS_list, bS_list]; exact he
          clear hv he
          have c0 := blk_cell hx6 0
          have f0 := blk_frozen hx6 0
          have c1 := blk_cell hx6 1
          have f1 := blk_frozen hx6 1
          have c2 := blk_cell hx6 2
          have f2 := blk_frozen hx6 2
          simp only [List.getElem?_toArray, List.getElem?_cons_zero, List.getElem?_cons_succ] at c0 c1 c2
          have d0 := blk_cell hy6 0
          have e0 := blk_frozen hy6 0
          have d1 := blk_cell hy6 1
          have e1 := blk_frozen hy6 1
          have d2 := blk_cell hy6 2
          have e2 := blk_frozen hy6 2
          simp only [List.getElem?_toArray, List.getElem?_cons_zero, List.getElem?_cons_succ] at d0 d1 d2
          go_wp2
          refine bodyPost_ret (v := .tuple #[Cs0.val none 0, .int .i64 5]) (by simp [results, Tryz.results48, go_sem, c0, c1, c2, f0, f1, f2, Cs.val]) rfl ⟨_, rfl, ?_, tupC_no HN.out⟩
          repeat (refine Below.setCell ?_ (by simp) _)
          exact HB6.out
        · have HN := Aside0.mk (show crV l = ⟨s0, m2, hs⟩ ∧ crE l = 0 by rw [HR.out.1, HR.out.2, hv, he]; exact ⟨rfl, rfl⟩)
          have hq : ((bS (csT ⟨s0, m2, hs⟩)).toList == (bS l).toList) = true := by rw [bS_list, bS_list]; exact he
          clear hv he
          have c0 := blk_cell hx6 0
          have f0 := blk_frozen hx6 0
          have c1 := blk_cell hx6 1
          have f1 := blk_frozen hx6 1
          have c2 := blk_cell hx6 2
          have f2 := blk_frozen hx6 2
          simp only [List.getElem?_toArray, List.getElem?_cons_zero, List.getElem?_cons_succ] at c0 c1 c2
          have d0 := blk_cell hy6 0
          have e0 := blk_frozen hy6 0
          have d1 := blk_cell hy6 1
          have e1 := blk_frozen hy6 1
          have d2 := blk_cell hy6 2
          have e2 := blk_frozen hy6 2
          simp only [List.getElem?_toArray, List.getElem?_cons_zero, List.getElem?_cons_succ] at d0 d1 d2
          go_wp2
          refine bodyPost_ret (v := .tuple #[.agg #[.int .i16 s0, .int .i32 m2, .slice A7 hs.length c7], .int .i64 0]) (by simp [results, Tryz.results48, go_sem, c0, c1, c2, f0, f1, f2, Cs.val]) rfl ⟨_, rfl, ?_, ?_⟩
          · repeat (refine Below.setCell ?_ (by simp) _)
            exact HB6.out
          · rw [HN.out.1, HN.out.2]
            exact ⟨A7, c7, rfl, hc7, Kd.R_mono (Kd.R_far (Kd.R_far (Kd.R_far HV6.out (p := ⟨w.heap.size, 0, none⟩) (fun k hk => hk.1) _) (p := ⟨w.heap.size, 1, none⟩) (fun k hk => hk.1) _) (p := ⟨w.heap.size, 2, none⟩) (fun k hk => hk.1) _) (fun _ _ => trivial)⟩
end Go.Proofs.YtgibcacciedobaaGreatDoor
end
section
/- The law FnExactLayoutText returns true of every input. -/
namespace Go.Proofs.YtgibcacciedobaaGreatDoor
open Go.RowKit Go.Proofs.YtgibcacciedobaaGreatDoorW.PrintWords Go.Proofs.YtgibcacciedobaaGreatDoorW.PrintMore
set_option linter.unusedVariables false
set_option linter.unusedSimpArgs false
set_option maxRecDepth 100000

def tL (E : List Int) : ByteArray := if plainE E = true then bS (lyT E) else ⟨#[]⟩
set_option maxHeartbeats 2000000 in
theorem LayoutText_c (A : Option Addr) (c : Nat) (E : List Int) (w : World) (hE : (Kd.int .i64).C w A E.length E) (ht : Tab w) : Calls Tryz.prog 66 #[.slice A E.length c] w (Ret w (.string (tL E))) := by
  have HI := Aside0.mk (isLayoutText_c A c E w hE)
  have HE := Aside0.mk hE
  have HT := Aside0.mk ht
  clear ht hE
  cases hv : plainE E
  · have HV := Aside0.mk (show tL E = ⟨#[]⟩ by unfold tL; rw [hv]; rfl)
    rw [hv] at HI
    clear hv
    go_enter Tryz.func66, Tryz.ntmps66
    go_wp2_with (go_at_call 136; refine HI.out.mono ?_; rintro _ w2 ⟨rfl, hb2⟩)
    go_ret
    exact ⟨ret_str HV.out.symm, hb2⟩
  · have HV := Aside0.mk (show tL E = bS (lyT E) by unfold tL; rw [hv]; rfl)
    have HP := Aside0.mk (plE hv)
    rw [hv] at HI
    clear hv
    go_enter Tryz.func66, Tryz.ntmps66
    go_wp2_with fail
    refine HI.out.mono ?_; rintro _ w1 ⟨rfl, hb1⟩
    have HB1 := Aside0.mk hb1
    clear hb1
    go_wp2_with fail
    refine (eachDecI_c A c E 139 (fun n => bS (dg n)) w1 (Kd.C_below HE.out HB1.out) (by have := HP.out.n; omega) ⟨_, Tryz.func139, rfl, rfl⟩ (fun W hW x hx => dec64_c x (HP.out.x x hx).1 (by have := HP.out.x x hx; omega) W ((HT.out.below HB1.out).below hW))).mono ?_
    rintro _ w2 ⟨v, rfl, hb2, hR⟩
    have hR' : Kd.string.R 9 w2 w1.heap.size (fun _ => True) v ((E.map dg).map bS) := by rw [List.map_map]; exact hR
    have hj : Go.Lib.join (E.map dg) [44] = lyT E := join_joinL 44 _
    have HJ := Aside0.mk (join_R (E.map dg) [44] v w1 w2 (fun e => by have := congrArg List.length e; rw [List.length_map, List.length_nil] at this; have := HP.out.n; omega) hR' (by rw [List.length_map]; have := HP.out.n; omega) (by rw [hj]; have := lyT_len HP.out; omega))
    rw [hj] at HJ
    have HB2 := Aside0.mk (bstep HB1.out hb2)
    clear hb2 hR hR' hj
    go_wp2_with fail
    refine HJ.out.mono ?_; rintro _ w3 ⟨rfl, hb3⟩
    go_wp2
    go_ret
    exact ⟨ret_str HV.out.symm, bstep HB2.out hb3⟩
end Go.Proofs.YtgibcacciedobaaGreatDoor
end
section
/- Two cases are deeply equal: the program's and the reference's. -/
namespace Go.Proofs.YtgibcacciedobaaGreatDoor
open Go.RowKit Go.Proofs.YtgibcacciedobaaGreatDoorW.PrintWords Go.Proofs.YtgibcacciedobaaGreatDoorW.PrintMore
set_option linter.unusedVariables false
set_option linter.unusedSimpArgs false
set_option maxRecDepth 100000

set_option maxHeartbeats 2000000 in
theorem slEqI16_c (A A' : Option Addr) (c c' : Nat) (L L' : List Int) (w : World) (hL : (Kd.int .i16).C w A L.length L) (hL' : (Kd.int .i16).C w A' L'.length L') : Calls Tryz.prog 124 #[.slice A L.length c, .slice A' L'.length c'] w (Ret w (.bool (decide (L = L')))) := by
  have hm := Kd.C_max hL
  have hm' := Kd.C_max hL'
  have HL := Aside0.mk hL
  have HL' := Aside0.mk hL'
  clear hL hL'
  by_cases hll : L.length = L'.length
  · have HLL := Aside0.mk hll
    have hb0 : ((L.length : Int) != (L'.length : Int)) = false := by simp [hll]
    have hb0' : (L.length != L'.length) = false := by simp [hll]
    clear hll
    go_enter Tryz.func124, Tryz.ntmps124
    go_wp2
    go_loopg [13] L.length (fun gk v wr => ∃ k : Nat, k + gk = L.length ∧ v = .int .i64 k ∧ Aside0 (L.take k = L'.take k) ∧ Aside0 (Below w.heap.size w wr))
    case atStart => exact ⟨0, by omega, rfl, ⟨by simp⟩, ⟨Below.refl _ _⟩⟩
    case round =>
      clear hb0 hb0'
      obtain ⟨k, hk, rfl, hp, hb⟩ := hrel
      have HK := Aside0.mk hk
      by_cases hlt : k < L.length
      · have hlt' : k < L'.length := by have := HLL.out; omega
        obtain ⟨ad, x, rfl, hbk, x0⟩ := at_int' (Kd.C_below HL.out hb.out) k (by omega)
        obtain ⟨ad', y, rfl, hbk', y0⟩ := at_int' (Kd.C_below HL'.out hb.out) k (by omega)
        clear hk
        have i0 : (0 : Int) ≤ (k : Int) := by omega
        have i1 : (k : Int) < (L.length : Int) := by omega
        have i2 : (k : Int) < (L'.length : Int) := by omega
        by_cases hxy : x = y
        · have HN := Aside0.mk (show L.take (k + 1) = L'.take (k + 1) by rw [take_snoc hbk.out, take_snoc hbk'.out, hp.out, hxy])
          have hd : (x != y) = false := by simp [hxy]
          clear hxy
          go_wp2_with fail
          go_quiet (fail)
          go_wp2
          go_roundg (gk - 1)
          case measure => have := HK.out; omega
          case rel => exact ⟨k + 1, by have := HK.out; omega, by go_num, HN, ⟨bdrewN hb.out _⟩⟩
        · have HN := Aside0.mk (show L ≠ L' from fun h => hxy (by have h1 := hbk.out; rw [h, hbk'.out] at h1; injection h1 with h1; exact h1.symm))
          have hd : (x != y) = true := by simpa using hxy
          clear hxy
          go_wp2_with fail
          go_quiet (fail)
          go_wp2
          go_ret
          exact ⟨ret_bool (decide_eq_false HN.out).symm, bdrewN hb.out _⟩
      · have HE := Aside0.mk (show L = L' by have h1 := hp.out; have h2 := HLL.out; rwa [List.take_of_length_le (by omega), List.take_of_length_le (by omega)] at h1)
        clear hk
        go_wp2
        go_ret
        exact ⟨ret_bool (decide_eq_true HE.out).symm, hb.out⟩
  · have hb0 : ((L.length : Int) != (L'.length : Int)) = true := by simp; omega
    have hb0' : (L.length != L'.length) = true := by simpa using hll
    have HN := Aside0.mk (show L ≠ L' from fun h => hll (by rw [h]))
    clear hll
    go_enter Tryz.func124, Tryz.ntmps124
    go_wp2
    all_goals (go_ret; exact ⟨ret_bool (decide_eq_false HN.out).symm, Below.refl _ _⟩)
theorem cs_eq (k k' : Cs) : decide (k = k') = (decide (k.wd = k'.wd) && (decide (k.ld = k'.ld) && decide (k.hs = k'.hs))) := by
  obtain ⟨a, b, l⟩ := k
  obtain ⟨a', b', l'⟩ := k'
  rw [Bool.eq_iff_iff]; simp
set_option maxHeartbeats 1000000 in
theorem SameCase_c (k k' : Cs) (A A' : Option Addr) (c c' : Nat) (w : World) (hC : (Kd.int .i16).C w A k.hs.length k.hs) (hC' : (Kd.int .i16).C w A' k'.hs.length k'.hs) :
    Calls Tryz.prog 53 #[k.val A c, k'.val A' c'] w (Ret w (.bool (decide (k = k')))) := by
  have HC := Aside0.mk (slEqI16_c A A' c c' k.hs k'.hs _ (Kd.C_alloc (Kd.C_alloc hC (.cells #[.int .i16 k.wd, .int .i32 k.ld, .slice A k.hs.length c] 74)) (.cells #[.int .i16 k'.wd, .int .i32 k'.ld, .slice A' k'.hs.length c'] 74)) (Kd.C_alloc (Kd.C_alloc hC' (.cells #[.int .i16 k.wd, .int .i32 k.ld, .slice A k.hs.length c] 74)) (.cells #[.int .i16 k'.wd, .int .i32 k'.ld, .slice A' k'.hs.length c'] 74)))
  have HE := Aside0.mk (cs_eq k k')
  have HB := Aside0.mk (balloc (balloc (Below.refl w.heap.size w) (.cells #[.int .i16 k.wd, .int .i32 k.ld, .slice A k.hs.length c] 74)) (.cells #[.int .i16 k'.wd, .int .i32 k'.ld, .slice A' k'.hs.length c'] 74))
  clear hC hC'
  simp only [Cs.val]
  by_cases h0 : k.wd = k'.wd
  · have b0 : (k.wd == k'.wd) = true := by simp [h0]
    by_cases h1 : k.ld = k'.ld
    · have b1 : (k.ld == k'.ld) = true := by simp [h1]
      rw [decide_eq_true h0, decide_eq_true h1, Bool.true_and, Bool.true_and] at HE
      clear h0 h1
      go_enter Tryz.func53, Tryz.ntmps53
      go_wp2_with fail
      refine HC.out.mono ?_; rintro _ w1 ⟨rfl, hb1⟩
      have HB1 := Aside0.mk (bstep HB.out hb1)
      clear hb1
      go_wp2_with fail
      go_ret
      exact ⟨ret_bool HE.out.symm, HB1.out⟩
    · have b1 : (k.ld == k'.ld) = false := by simp [h1]
      rw [decide_eq_false h1, Bool.false_and, Bool.and_false] at HE
      clear h0 h1
      go_enter Tryz.func53, Tryz.ntmps53
      go_wp2_with fail
      go_ret
      exact ⟨ret_bool HE.out.symm, HB.out⟩
  · have b0 : (k.wd == k'.wd) = false := by simp [h0]
    rw [decide_eq_false h0, Bool.false_and] at HE
    clear h0
    go_enter Tryz.func53, Tryz.ntmps53
    go_wp2_with fail
    go_ret
    exact ⟨ret_bool HE.out.symm, HB.out⟩
set_option maxHeartbeats 4000000 in
theorem l02Same_c (k k' : Cs) (A A' : Option Addr) (c c' : Nat) (p p' : Addr) (w : World) (hp : CsAt w p k A c) (hp' : CsAt w p' k' A' c') (hC : (Kd.int .i16).C w A k.hs.length k.hs) (hC' : (Kd.int .i16).C w A' k'.hs.length k'.hs) :
    Calls Tryz.prog 123 #[.pointer (some p), .pointer (some p')] w (Ret w (.bool (decide (k = k')))) := by
  have hm := Kd.C_max hC
  have hm' := Kd.C_max hC'
  have HP := Aside0.mk hp
  have HP' := Aside0.mk hp'
  have HL := Aside0.mk hC
  have HL' := Aside0.mk hC'
  have HE := Aside0.mk (cs_eq k k')
  obtain ⟨y0, y1, y2⟩ := hp
  obtain ⟨z0, z1, z2⟩ := hp'
  clear hC hC'
  by_cases h0 : k.wd = k'.wd
  · have b0 : (k.wd != k'.wd) = false := by simp [h0]
    by_cases h1 : k.ld = k'.ld
    · have b1 : (k.ld != k'.ld) = false := by simp [h1]
      rw [decide_eq_true h0, decide_eq_true h1, Bool.true_and, Bool.true_and] at HE
      clear h0 h1
      by_cases hll : k.hs.length = k'.hs.length
      · have HLL := Aside0.mk hll
        have b2 : ((k.hs.length : Int) != (k'.hs.length : Int)) = false := by simp [hll]
        have b2' : (k.hs.length != k'.hs.length) = false := by simp [hll]
        clear hll
        go_enter Tryz.func123, Tryz.ntmps123
        go_wp2_with fail
        go_quiet (fail)
        go_wp2
        clear y0 y1 y2 z0 z1 z2
        go_loopg [5] k.hs.length (fun gk v wr => ∃ i : Nat, i + gk = k.hs.length ∧ v = .int .i64 i ∧ Aside0 (k.hs.take i = k'.hs.take i) ∧ Aside0 (Below w.heap.size w wr))
        case atStart => exact ⟨0, by omega, rfl, ⟨by simp⟩, ⟨bdrewN (Below.refl _ _) _⟩⟩
        case round =>
          clear b0 b1 b2 b2'
          obtain ⟨i, hk, rfl, hp, hb⟩ := hrel
          obtain ⟨y0, y1, y2⟩ := HP.out.below hb.out
          obtain ⟨z0, z1, z2⟩ := HP'.out.below hb.out
          have HK := Aside0.mk hk
          by_cases hlt : i < k.hs.length
          · have hlt' : i < k'.hs.length := by have := HLL.out; omega
            obtain ⟨ad, x, e1, hbk, x0⟩ := at_int' (Kd.C_below HL.out hb.out) i (by omega)
            obtain ⟨ad', y, e2, hbk', x0'⟩ := at_int' (Kd.C_below HL'.out hb.out) i (by omega)
            rw [e1] at y2
            rw [e2] at z2
            clear hk e1 e2
            have i0 : (0 : Int) ≤ (i : Int) := by omega
            have i1 : (i : Int) < (k.hs.length : Int) := by omega
            have i2 : (i : Int) < (k'.hs.length : Int) := by omega
            by_cases hxy : x = y
            · have HN := Aside0.mk (show k.hs.take (i + 1) = k'.hs.take (i + 1) by rw [take_snoc hbk.out, take_snoc hbk'.out, hp.out, hxy])
              have hd : (x != y) = false := by simp [hxy]
              clear hxy
              go_wp2_with fail
              go_quiet (fail)
              go_wp2
              go_roundg (gk - 1)
              case measure => have := HK.out; omega
              case rel => exact ⟨i + 1, by have := HK.out; omega, by go_num, HN, ⟨bdrewN hb.out _⟩⟩
            · have HN := Aside0.mk (show k.hs ≠ k'.hs from fun h => hxy (by have h1 := hbk.out; rw [h, hbk'.out] at h1; injection h1 with h1; exact h1.symm))
              have hd : (x != y) = true := by simpa using hxy
              clear hxy
              go_wp2_with fail
              go_quiet (fail)
              go_wp2
              go_ret
              exact ⟨ret_bool (by rw [HE.out]; exact (decide_eq_false HN.out).symm), bdrewN hb.out _⟩
          · have HN := Aside0.mk (show k.hs = k'.hs by have h1 := hp.out; have h2 := HLL.out; rwa [List.take_of_length_le (by omega), List.take_of_length_le (by omega)] at h1)
            clear hk
            go_wp2
            go_ret
            exact ⟨ret_bool (by rw [HE.out]; exact (decide_eq_true HN.out).symm), hb.out⟩
      · have b2 : ((k.hs.length : Int) != (k'.hs.length : Int)) = true := by simp; omega
        have b2' : (k.hs.length != k'.hs.length) = true := by simpa using hll
        have HN := Aside0.mk (show k.hs ≠ k'.hs from fun h => hll (by rw [h]))
        clear hll
        go_enter Tryz.func123, Tryz.ntmps123
        go_wp2_with fail
        go_quiet (fail)
        go_wp2
        go_ret
        exact ⟨ret_bool (by rw [HE.out]; exact (decide_eq_false HN.out).symm), bdrewN (Below.refl _ _) _⟩
    · have b1 : (k.ld != k'.ld) = true := by simp [h1]
      rw [decide_eq_false h1, Bool.false_and, Bool.and_false] at HE
      clear h0 h1
      go_enter Tryz.func123, Tryz.ntmps123
      go_wp2_with fail
      go_quiet (fail)
      go_wp2
      go_ret
      exact ⟨ret_bool HE.out.symm, bdrewN (Below.refl _ _) _⟩
  · have b0 : (k.wd != k'.wd) = true := by simp [h0]
    rw [decide_eq_false h0, Bool.false_and] at HE
    clear h0
    go_enter Tryz.func123, Tryz.ntmps123
    go_wp2_with fail
    go_quiet (fail)
    go_wp2
    go_ret
    exact ⟨ret_bool HE.out.symm, bdrewN (Below.refl _ _) _⟩
theorem specSameCase_c (k k' : Cs) (A A' : Option Addr) (c c' : Nat) (w : World) (hC : (Kd.int .i16).C w A k.hs.length k.hs) (hC' : (Kd.int .i16).C w A' k'.hs.length k'.hs) :
    Calls Tryz.prog 52 #[k.val A c, k'.val A' c'] w (Ret w (.bool (decide (k = k')))) := by
  have h2 := CsAt.box (w.alloc (.cells #[.int .i16 k.wd, .int .i32 k.ld, .slice A k.hs.length c] 74)) k' A' c' 74
  have h3 := l02Same_c k k' A A' c c' _ _ _ ((CsAt.box w k A c 74).below (balloc (Below.refl _ _) (.cells #[.int .i16 k'.wd, .int .i32 k'.ld, .slice A' k'.hs.length c'] 74))) h2 (Kd.C_alloc (Kd.C_alloc hC _) _) (Kd.C_alloc (Kd.C_alloc hC' _) _)
  simp only [World.size_alloc] at h3
  have HC := Aside0.mk h3
  have HB := Aside0.mk (balloc (balloc (Below.refl w.heap.size w) (.cells #[.int .i16 k.wd, .int .i32 k.ld, .slice A k.hs.length c] 74)) (.cells #[.int .i16 k'.wd, .int .i32 k'.ld, .slice A' k'.hs.length c'] 74))
  clear hC hC' h2 h3
  simp only [Cs.val]
  go_enter Tryz.func52, Tryz.ntmps52
  go_wp2_with fail
  refine HC.out.mono ?_; rintro _ w1 ⟨rfl, hb1⟩
  have HB1 := Aside0.mk (bstep HB.out hb1)
  clear hb1
  go_wp2_with fail
  go_ret
  exact ⟨rfl, HB1.out⟩
end Go.Proofs.YtgibcacciedobaaGreatDoor
end
section
/- Two lists of books are equal: slices.Equal, SameBooks, the reference's. -/
namespace Go.Proofs.YtgibcacciedobaaGreatDoor
open Go.RowKit Go.Proofs.YtgibcacciedobaaGreatDoorW.PrintWords Go.Proofs.YtgibcacciedobaaGreatDoorW.PrintMore
set_option linter.unusedVariables false
set_option linter.unusedSimpArgs false
set_option maxRecDepth 100000

theorem info_u8 : ∃ i, Tryz.prog.info? 5 = some i ∧ i.size = 1 := by
  have h : (Tryz.prog.info? 5).map (fun i => i.size) = some 1 := by kernel_rfl
  obtain ⟨i, h1, h2⟩ := Option.map_eq_some_iff.1 h
  exact ⟨i, h1, h2⟩
theorem agg_u8 (w : World) : (isAgg 5).run Tryz.prog w = .ok false w := by kernel_rfl
/-- Three bytes against three bytes. -/
theorem arr3_eq (x y z x' y' z' : Int) (w : World) : (Op.equalIn 9999 28 (.agg #[.int .u8 x, .int .u8 y, .int .u8 z]) (.agg #[.int .u8 x', .int .u8 y', .int .u8 z'])).run Tryz.prog w = .ok (decide (x = x' ∧ y = y' ∧ z = z')) w := by
  obtain ⟨i, hi, hs⟩ := info_u8
  rw [run_equalIn_array w 9998 _ _ Tryz.underlying28 hi]
  have hc : Tryz.prog.cellsOf 5 = 1 := by kernel_rfl
  rw [hc, show List.range 3 = [0, 1, 2] from rfl]
  have e1 : ∀ (a b : Int) (w : World), (Op.equalIn 9998 5 (.int .u8 a) (.int .u8 b)).run Tryz.prog w = .ok (a == b) w := fun a b w => run_equalIn_int w 9997 5 .u8 .u8 a b Tryz.underlying5
  simp only [Op.eqItems, Sem.run_bind, part, agg_u8, Result.andThen_ok, Bool.false_eq_true, if_false]
  by_cases h0 : x = x' <;> by_cases h1 : y = y' <;> by_cases h2 : z = z' <;> simp [part, agg_u8, e1, h0, h1, h2]
theorem bk_same {b b' : Bk} (h0 : b.c = b'.c) (h1 : ¬(b.m0 = b'.m0 → b.m1 = b'.m1 → ¬b.m2 = b'.m2)) (h2 : b.v = b'.v) (h3 : b.wd = b'.wd) (h4 : b.h = b'.h) (h5 : b.wt = b'.wt) : b = b' := by
  cases b; cases b'
  simp only [Bk.mk.injEq] at *
  simp_all
set_option maxHeartbeats 2000000 in
theorem l01Same_c (A A' : Option Addr) (c c' : Nat) (L L' : List Bk) (w : World) (hL : kBk.C w A L.length L) (hL' : kBk.C w A' L'.length L') : Calls Tryz.prog 84 #[.slice A L.length c, .slice A' L'.length c'] w (Ret w (.bool (decide (L = L')))) := by
  have hm := Kd.C_max hL
  have hm' := Kd.C_max hL'
  have HL := Aside0.mk hL
  have HL' := Aside0.mk hL'
  clear hL hL'
  by_cases hll : L.length = L'.length
  · have HLL := Aside0.mk hll
    have hb0 : ((L.length : Int) != (L'.length : Int)) = false := by simp [hll]
    have hb0' : (L.length != L'.length) = false := by simp [hll]
    clear hll
    go_enter Tryz.func84, Tryz.ntmps84
    go_wp2
    go_loopg [5] L.length (fun gk v wr => ∃ k : Nat, k + gk = L.length ∧ v = .int .i64 k ∧ Aside0 (L.take k = L'.take k) ∧ Aside0 (Below w.heap.size w wr))
    case atStart => exact ⟨0, by omega, rfl, ⟨by simp⟩, ⟨Below.refl _ _⟩⟩
    case round =>
      clear hb0 hb0'
      obtain ⟨k, hk, rfl, hp, hb⟩ := hrel
      have HK := Aside0.mk hk
      by_cases hlt : k < L.length
      · have hlt' : k < L'.length := by have := HLL.out; omega
        obtain ⟨ad, b, rfl, hbk, x0, x1, x2, x3, x4, x5, x6, x7⟩ := at_bk (Kd.C_below HL.out hb.out) k (by omega)
        obtain ⟨ad', b', rfl, hbk', y0, y1, y2, y3, y4, y5, y6, y7⟩ := at_bk (Kd.C_below HL'.out hb.out) k (by omega)
        clear hk
        have i0 : (0 : Int) ≤ (k : Int) := by omega
        have i1 : (k : Int) < (L.length : Int) := by omega
        have i2 : (k : Int) < (L'.length : Int) := by omega
        have hqn := arr3_eq b.m0 b.m1 b.m2 b'.m0 b'.m1 b'.m2
        by_cases hbb : b = b'
        · have HD := Aside0.mk (show decide (b = b') = true by simp [hbb])
          have HN := Aside0.mk (show L.take (k + 1) = L'.take (k + 1) by rw [take_snoc hbk.out, take_snoc hbk'.out, hp.out, hbb])
          clear HD
          subst hbb
          simp only [and_self, decide_true] at hqn
          go_wp2_with fail
          go_still_tail 8, (by kernel_rfl)
          go_wp2
          go_roundg (gk - 1)
          case measure => have := HK.out; omega
          case rel => exact ⟨k + 1, by have := HK.out; omega, by go_num, HN, ⟨bdrewN hb.out _⟩⟩
        · have HD := Aside0.mk (show decide (b = b') = false by simp [hbb])
          have HN := Aside0.mk (show L ≠ L' from fun h => hbb (by have h1 := hbk.out; rw [h, hbk'.out] at h1; injection h1 with h1; exact h1.symm))
          have HBB := Aside0.mk hbb
          clear hbb HD
          go_wp2_with fail
          go_still_tail 8, (by kernel_rfl)
          go_wp2
          all_goals first
            | exact absurd (bk_same ‹b.c = b'.c› ‹¬(b.m0 = b'.m0 → b.m1 = b'.m1 → ¬b.m2 = b'.m2)› ‹b.v = b'.v› ‹b.wd = b'.wd› ‹b.h = b'.h› ‹b.wt = b'.wt›) HBB.out
            | (go_ret; exact ⟨ret_bool (decide_eq_false HN.out).symm, bdrewN hb.out _⟩)
      · have HE := Aside0.mk (show L = L' by have h1 := hp.out; have h2 := HLL.out; rwa [List.take_of_length_le (by omega), List.take_of_length_le (by omega)] at h1)
        clear hk
        go_wp2
        go_ret
        exact ⟨ret_bool (decide_eq_true HE.out).symm, hb.out⟩
  · have hb0 : ((L.length : Int) != (L'.length : Int)) = true := by simp; omega
    have hb0' : (L.length != L'.length) = true := by simpa using hll
    have HN := Aside0.mk (show L ≠ L' from fun h => hll (by rw [h]))
    clear hll
    go_enter Tryz.func84, Tryz.ntmps84
    go_wp2
    all_goals (go_ret; exact ⟨ret_bool (decide_eq_false HN.out).symm, Below.refl _ _⟩)
set_option maxHeartbeats 2000000 in
theorem slicesEqual_c (A A' : Option Addr) (c c' : Nat) (L L' : List Bk) (w : World) (hL : kBk.C w A L.length L) (hL' : kBk.C w A' L'.length L') : Calls Tryz.prog 105 #[.slice A L.length c, .slice A' L'.length c'] w (Ret w (.bool (decide (L = L')))) := by
  have hm := Kd.C_max hL
  have hm' := Kd.C_max hL'
  have HL := Aside0.mk hL
  have HL' := Aside0.mk hL'
  clear hL hL'
  by_cases hll : L.length = L'.length
  · have HLL := Aside0.mk hll
    have hb0 : ((L.length : Int) != (L'.length : Int)) = false := by simp [hll]
    have hb0' : (L.length != L'.length) = false := by simp [hll]
    clear hll
    go_enter Tryz.func105, Tryz.ntmps105
    go_wp2
    go_loopg [13] L.length (fun gk v wr => ∃ k : Nat, k + gk = L.length ∧ v = .int .i64 k ∧ Aside0 (L.take k = L'.take k) ∧ Aside0 (Below w.heap.size w wr))
    case atStart => exact ⟨0, by omega, rfl, ⟨by simp⟩, ⟨Below.refl _ _⟩⟩
    case round =>
      clear hb0 hb0'
      obtain ⟨k, hk, rfl, hp, hb⟩ := hrel
      have HK := Aside0.mk hk
      by_cases hlt : k < L.length
      · have hlt' : k < L'.length := by have := HLL.out; omega
        obtain ⟨ad, b, rfl, hbk, x0, x1, x2, x3, x4, x5, x6, x7⟩ := at_bk (Kd.C_below HL.out hb.out) k (by omega)
        obtain ⟨ad', b', rfl, hbk', y0, y1, y2, y3, y4, y5, y6, y7⟩ := at_bk (Kd.C_below HL'.out hb.out) k (by omega)
        clear hk
        have i0 : (0 : Int) ≤ (k : Int) := by omega
        have i1 : (k : Int) < (L.length : Int) := by omega
        have i2 : (k : Int) < (L'.length : Int) := by omega
        have hqn := arr3_eq b.m0 b.m1 b.m2 b'.m0 b'.m1 b'.m2
        by_cases hbb : b = b'
        · have HD := Aside0.mk (show decide (b = b') = true by simp [hbb])
          have HN := Aside0.mk (show L.take (k + 1) = L'.take (k + 1) by rw [take_snoc hbk.out, take_snoc hbk'.out, hp.out, hbb])
          clear HD
          subst hbb
          simp only [and_self, decide_true] at hqn
          go_wp2_with fail
          go_still_tail 8, (by kernel_rfl)
          go_wp2
          go_roundg (gk - 1)
          case measure => have := HK.out; omega
          case rel => exact ⟨k + 1, by have := HK.out; omega, by go_num, HN, ⟨bdrewN hb.out _⟩⟩
        · have HD := Aside0.mk (show decide (b = b') = false by simp [hbb])
          have HN := Aside0.mk (show L ≠ L' from fun h => hbb (by have h1 := hbk.out; rw [h, hbk'.out] at h1; injection h1 with h1; exact h1.symm))
          have HBB := Aside0.mk hbb
          clear hbb HD
          go_wp2_with fail
          go_still_tail 8, (by kernel_rfl)
          go_wp2
          all_goals first
            | exact absurd (bk_same ‹b.c = b'.c› ‹¬(b.m0 = b'.m0 → b.m1 = b'.m1 → ¬b.m2 = b'.m2)› ‹b.v = b'.v› ‹b.wd = b'.wd› ‹b.h = b'.h› ‹b.wt = b'.wt›) HBB.out
            | (go_ret; exact ⟨ret_bool (decide_eq_false HN.out).symm, bdrewN hb.out _⟩)
      · have HE := Aside0.mk (show L = L' by have h1 := hp.out; have h2 := HLL.out; rwa [List.take_of_length_le (by omega), List.take_of_length_le (by omega)] at h1)
        clear hk
        go_wp2
        go_ret
        exact ⟨ret_bool (decide_eq_true HE.out).symm, hb.out⟩
  · have hb0 : ((L.length : Int) != (L'.length : Int)) = true := by simp; omega
    have hb0' : (L.length != L'.length) = true := by simpa using hll
    have HN := Aside0.mk (show L ≠ L' from fun h => hll (by rw [h]))
    clear hll
    go_enter Tryz.func105, Tryz.ntmps105
    go_wp2
    all_goals (go_ret; exact ⟨ret_bool (decide_eq_false HN.out).symm, Below.refl _ _⟩)
theorem SameBooks_c (A A' : Option Addr) (c c' : Nat) (L L' : List Bk) (w : World) (hL : kBk.C w A L.length L) (hL' : kBk.C w A' L'.length L') : Calls Tryz.prog 33 #[.slice A L.length c, .slice A' L'.length c'] w (Ret w (.bool (decide (L = L')))) := by
  have HC := Aside0.mk (slicesEqual_c A A' c c' L L' w hL hL')
  clear hL hL'
  go_enter Tryz.func33, Tryz.ntmps33
  go_wp2_with fail
  refine HC.out.mono ?_; rintro _ w1 ⟨rfl, hb1⟩
  go_wp2_with fail
  go_ret
  exact ⟨rfl, hb1⟩
theorem specSameBooks_c (A A' : Option Addr) (c c' : Nat) (L L' : List Bk) (w : World) (hL : kBk.C w A L.length L) (hL' : kBk.C w A' L'.length L') : Calls Tryz.prog 17 #[.slice A L.length c, .slice A' L'.length c'] w (Ret w (.bool (decide (L = L')))) := by
  have HC := Aside0.mk (l01Same_c A A' c c' L L' w hL hL')
  clear hL hL'
  go_enter Tryz.func17, Tryz.ntmps17
  go_wp2_with fail
  refine HC.out.mono ?_; rintro _ w1 ⟨rfl, hb1⟩
  go_wp2_with fail
  go_ret
  exact ⟨rfl, hb1⟩
end Go.Proofs.YtgibcacciedobaaGreatDoor
end
section
/- The law FnFilled: what it asks, in plain Lean. -/
namespace Go.Proofs.YtgibcacciedobaaGreatDoor
open Go.RowKit Go.Proofs.YtgibcacciedobaaGreatDoorW.PrintWords Go.Proofs.YtgibcacciedobaaGreatDoorW.PrintMore
set_option linter.unusedVariables false
set_option linter.unusedSimpArgs false
set_option maxRecDepth 100000

theorem tC_ok {k : Cs} (h : vCase k = true) : tC k = bS (csT k) := by unfold tC; rw [if_pos h]
theorem csT_back {k : Cs} (h : vCase k = true) : crV (csT k) = k ∧ crE (csT k) = 0 := cr_ok ⟨h, rfl⟩
theorem tL_ok {E : List Int} (h : plainE E = true) : tL E = bS (lyT E) := by unfold tL; rw [if_pos h]
theorem lay_neg {k : Cs} {L : List Bk} {E : List Int} (h : layC k L E = 0) (h0 : eCL k L = 0) : badL k L E < 0 := by
  rw [lay_0 h0] at h
  split at h
  · cases h
  · omega
/-- What the law asks of a shelf that ends at en, with books from f on. -/
structure FlAt (k : Cs) (L : List Bk) (E : List Int) (s : Nat) (f e fr : Int) : Prop where
  nn : 0 ≤ f
  le : f ≤ e
  lt : e ≤ L.length
  frq : fr = k.wd - wdS L f e
  pos : 0 ≤ fr ∧ fr ≤ 2000
  fo : foV k (s : Int) (subL L f e) = true ∧ foE k (s : Int) (subL L f e) = 0
  ov : e < L.length → foV k (s : Int) (subL L f (e + 1)) = false ∧ foE k (s : Int) (subL L f (e + 1)) = 0
  sp : f < e → ssL k L E false s = fr * fr ∧ ssL k L E true s = 1
  sn : ¬ f < e → ssL k L E false s = 0 ∧ ssL k L E true s = 0
theorem sub_valid {L : List Bk} (h : vBooks L = true) (a b : Int) : vBooks (subL L a b) = true := by
  have h1 := vBooks_len h
  have hs := subL_sub L a b
  unfold vBooks at h ⊢
  rw [Bool.and_eq_true, decide_eq_true_eq, List.all_eq_true] at h ⊢
  exact ⟨Nat.le_trans hs.length_le h.1, fun x hx => h.2 x (hs.subset hx)⟩
theorem FlAt.of {FR : List Int} {k : Cs} {L : List Bk} {E : List Int} {s : Nat} {e fr : Int} (h : LayP k L E) (hov : ∀ s, s < k.hs.length → E.getD s 0 < L.length → fitL k s (subL L (bef E s) (E.getD s 0 + 1)) = false) (hs : s < E.length) (he : E[s]? = some e) (hF : FR[s]? = some (frL k (shB L E s))) (hf : FR[s]? = some fr) : FlAt k L E s (bef E s) e fr := by
  have hee := getD_of he
  have h1 := h.s s hs
  have hn := h.n
  have hnn := (h.nn s (by omega)).1
  rw [hee] at h1
  have hfr : fr = frL k (shB L E s) := by rw [hF] at hf; exact (Option.some.inj hf).symm
  have hw : frL k (shB L E s) = k.wd - wdS L (bef E s) e := by rw [frL_wd, hee]
  have hbd := vCase_bd h.case
  have hpos : 0 ≤ frL k (shB L E s) ∧ frL k (shB L E s) ≤ 2000 := by
    refine frL_bd (s := s) hbd ((FitOk.of h.list).sub (subL_sub L _ _)) ?_
    show fitL k s (subL L (bef E s) (E.getD s 0)) = true
    rw [hee]; exact h1.2
  have hin : inR (s : Int) 0 ((k.hs.length : Int) - 1) = true := by rw [inR_iff]; omega
  refine ⟨hnn, h1.1.1, h1.1.2, hfr.trans hw, hfr ▸ hpos, ?_, fun hl => ?_, fun hp => ?_, fun hp => ?_⟩
  · have h2 := fo_ok (k := k) (n := (s : Int)) (L := subL L (bef E s) e) (eCL_0 h.case (sub_valid h.list _ _)) hin
    rw [h2.1, h2.2, Int.toNat_natCast]
    exact ⟨h1.2, rfl⟩
  · have h2 := fo_ok (k := k) (n := (s : Int)) (L := subL L (bef E s) (e + 1)) (eCL_0 h.case (sub_valid h.list _ _)) hin
    rw [h2.1, h2.2, Int.toNat_natCast]
    have := hov s (by omega) (by rw [hee]; exact hl)
    rw [hee] at this
    exact ⟨this, rfl⟩
  · have := ss_pos (k := k) hnn (by rw [hee]; exact hp) (by rw [hee]; exact h1.1.2)
    rw [this.1, this.2, hfr]
    exact ⟨rfl, rfl⟩
  · exact ss_nil (k := k) (by rw [hee]; exact hp) (by rw [hee]; exact h1.1.2)
section
variable {ops : Array Oper} {rest : List Oper} {o : Oper} {a : Act} {Q : Exit → Act → World → Prop}
/-- append([]int64{}, xs...). -/
theorem i64_append_all {w W : World} (hgd : o.guard = none) (s x : Operand) (ho : o.op = .call { callee := .builtin .append, args := #[s, x], argTypes := #[66, 66] }) (A : Option Addr) (m c : Nat) (ys : List Int)
    (hs : a.eval s = .slice (some ⟨W.heap.size, 0, none⟩) 0 0) (hx : a.eval x = .slice A m c) (HL : (Kd.int .i64).C W A m ys) (HB : Below w.heap.size w W) (hl : m ≤ 2097152)
    (h : ∀ v1 w1, (Kd.int .i64).R 2 w1 w.heap.size (fun _ => True) v1 ys → Below w.heap.size w w1 → wpList Tryz.prog ops Q rest (a.put o.dst v1) w1) :
    wpList Tryz.prog ops Q (o :: rest) a (W.alloc (.cells #[] 2)) :=
  Kd.R_append_rows (Kd.int .i64) (Rr := (Kd.int .i64).K (W.alloc (.cells #[] 2))) (w0 := w) w.heap.size hgd s x 66 2 (.int .i64 0) 8 ho Tryz.underlying66 info_i64 rfl (by decide) (by decide) _ [] ys A m c (fun _ => True) (fun _ => False) hs hx (R_zero _ _ _ _ _ HB.size trivial) (Kd.C_below HL (balloc (Below.refl _ _) _)) (fun x cs h => h) (fun _ h => h.elim) (fun _ _ => trivial) (HB.alloc HB.size _) (by simp only [World.size_alloc]; have := HB.size; omega) (by simp only [List.length_nil]; omega)
    (fun v1 w1 h1 h2 _ _ => h v1 w1 h1 h2)
end
/-- A number below n, out of some bytes. -/
def a2V (Cd : List Int) (i : Nat) (n : Int) : Int := match Cd[i]? with
  | some x => x % n
  | none => 0
theorem a2V_bd {Cd : List Int} {i : Nat} {n : Int} (h : 1 ≤ n) : 0 ≤ a2V Cd i n ∧ a2V Cd i n ≤ n - 1 := by
  unfold a2V
  cases Cd[i]? with
  | none => simp only; omega
  | some x =>
    have e2 := Int.emod_nonneg x (b := n) (by omega)
    have e3 := Int.emod_lt_of_pos x (b := n) (by omega)
    simp only; omega
set_option maxHeartbeats 2000000 in
theorem a2At_c (A : Option Addr) (c : Nat) (Cd : List Int) (i : Nat) (n : Int) (h1 : 1 ≤ n) (hn : n ≤ 1000) (hi : i ≤ 10) (w : World) (hC : (Kd.int .u8).C w A Cd.length Cd) (hU : ∀ x, x ∈ Cd → 0 ≤ x ∧ x ≤ 255) :
    Calls Tryz.prog 62 #[.slice A Cd.length c, .int .i64 (i : Int), .int .i64 n] w (Ret w (.int .i64 (a2V Cd i n))) := by
  have hm := Kd.C_max hC
  by_cases hlt : i < Cd.length
  · obtain ⟨ad, x, rfl, hx, hxx⟩ := at_int' hC i hlt
    have hxb := hU x (mem_of hx.out)
    have HVV := Aside0.mk (show a2V Cd i n = x % n by unfold a2V; rw [hx.out])
    have i0 : ¬ (Cd.length : Int) ≤ (i : Int) := by omega
    have i1 : (i : Int) < (Cd.length : Int) := by omega
    have i2 : (0 : Int) ≤ (i : Int) := by omega
    have n1 : ¬ n < 1 := by omega
    have e2 := Int.emod_nonneg x (b := n) (by omega)
    have e3 := Int.emod_lt_of_pos x (b := n) (by omega)
    have hn1 : ¬ (n = 0) := by omega
    have hw : wrap64 (Cd.length : Int) = Cd.length := by unfold wrap64; omega
    have t1 : IntKind.i64.wrap x = x := by rw [IntKind.wrap_i64]; omega
    have t2 : wrap64 x = x := by unfold wrap64; omega
    clear hC hU hlt
    go_enter Tryz.func62, Tryz.ntmps62
    go_wp2
    go_ret
    exact ⟨ret_int HVV.out.symm, Below.refl _ _⟩
  · have i0 : (Cd.length : Int) ≤ (i : Int) := by omega
    have HVV := Aside0.mk (show a2V Cd i n = 0 by unfold a2V; rw [List.getElem?_eq_none (by omega)])
    have hw : wrap64 (Cd.length : Int) = Cd.length := by unfold wrap64; omega
    clear hC hU hlt
    go_enter Tryz.func62, Tryz.ntmps62
    go_wp2
    go_ret
    exact ⟨ret_int HVV.out.symm, Below.refl _ _⟩
theorem addr_add (g k : Nat) : (⟨g, 0, none⟩ : Addr).add k = ⟨g, k, none⟩ := by
  unfold Addr.add
  split
  · rename_i h; subst h; rfl
  · simp
theorem lay_plain {k : Cs} {L : List Bk} {E : List Int} (h : LayP k L E) : plainE E = true := by
  have hn := h.n
  have hb := (vCase_bd h.case).n
  have hl := vBooks_len h.list
  refine PlE.plain ⟨by omega, fun x hx => ?_⟩
  obtain ⟨s, hs, rfl⟩ := List.mem_iff_getElem.1 hx
  have h1 := h.s s hs
  have h2 := (h.nn s (by omega)).1
  rw [getD_of (List.getElem?_eq_getElem hs)] at h1
  omega
end Go.Proofs.YtgibcacciedobaaGreatDoor
end
section
/- The law FnFilled returns true of every input. -/
namespace Go.Proofs.YtgibcacciedobaaGreatDoor
open Go.RowKit Go.Proofs.YtgibcacciedobaaGreatDoorW.PrintWords Go.Proofs.YtgibcacciedobaaGreatDoorW.PrintMore
set_option linter.unusedVariables false
set_option linter.unusedSimpArgs false
set_option maxRecDepth 100000

set_option maxHeartbeats 16000000 in
theorem FnFilled_c {w : World} (A0 : Option Addr) (c0 : Nat) (L0 : List Int) (hlc0 : L0.length ≤ c0) (hL0 : (Kd.int .u8).C w A0 L0.length L0) (hok0 : ∀ x, x ∈ L0 → 0 ≤ x ∧ x ≤ 255) (A1 : Option Addr) (c1 : Nat) (L1 : List Int) (hlc1 : L1.length ≤ c1) (hL1 : (Kd.int .u8).C w A1 L1.length L1) (hok1 : ∀ x, x ∈ L1 → 0 ≤ x ∧ x ≤ 255) (ht : Txt w) :
    Calls Tryz.prog 5 #[.slice A0 L0.length c0, .slice A1 L1.length c1] w (Ret w (.bool true)) := by
  have hr0 := Kd.C_max hL0
  have hr1 := Kd.C_max hL1
  have HA := Aside0.mk (a2Long_c A0 A1 L0.length L1.length c0 c1 hr0 hr1 w)
  have HL0 := Aside0.mk hL0
  have HL1 := Aside0.mk hL1
  have HO0 := Aside0.mk hok0
  have HO1 := Aside0.mk hok1
  have HT := Aside0.mk ht
  clear hL0 hL1 hok0 hok1 ht
  by_cases hlong : 3000 < L0.length ∨ 3000 < L1.length
  · rw [decide_eq_true hlong] at HA
    clear hlong
    go_enter Tryz.func5, Tryz.ntmps5
    go_wp2_with fail
    refine HA.out.mono ?_; rintro _ w0 ⟨rfl, rfl⟩
    go_wp2
    go_ret
    exact ⟨rfl, Below.refl _ _⟩
  · rw [decide_eq_false hlong] at HA
    clear hlong
    go_enter Tryz.func5, Tryz.ntmps5
    go_wp2_with fail
    refine HA.out.mono ?_; rintro _ w0 ⟨rfl, rfl⟩
    go_wp2_with fail
    refine (A2Case_c A0 c0 L0 w HL0.out HO0.out).mono ?_; rintro _ w1 ⟨_, rfl, hb1, k, Ak, ck, rfl, hrow, hv, hok⟩
    have HV := Aside0.mk hv
    have HOK := Aside0.mk hok
    have HC1 := Aside0.mk (Kd.R_reads' hrow).2.2
    have hlk := (Kd.R_reads' hrow).2.1
    have HB1 := Aside0.mk hb1
    simp only [Cs.val]
    clear hv hok hrow hb1 HA
    go_wp2_with fail
    have hx2 := CsAt.box w1 k Ak ck 74
    have hb2 : Below w1.heap.size w1 (w1.alloc (.cells #[.int .i16 k.wd, .int .i32 k.ld, .slice Ak k.hs.length ck] 74)) := balloc (Below.refl _ _) _
    generalize World.alloc w1 _ = w2 at hx2 hb2 ⊢
    generalize w1.heap.size = P at hx2 ⊢
    have HX2 := Aside0.mk hx2
    have HC2 := Aside0.mk (Kd.C_below HC1.out hb2)
    have HB2 := Aside0.mk (bstep HB1.out hb2)
    clear hx2 hb2
    refine (A2Books_c A1 c1 L1 w2 (Kd.C_below HL1.out HB2.out) HO1.out).mono ?_; rintro _ w3 ⟨vl, rfl, hb, L, hRL, hVB, hl8⟩
    obtain ⟨Al, cl, rfl⟩ := Kd.R_slice hRL
    obtain ⟨hvb, hokl⟩ := VB.books hVB hl8
    have HVB := Aside0.mk hvb
    have HOL := Aside0.mk hokl
    have hll := (Kd.R_reads' hRL).2.1
    have HL_3 := Aside0.mk (Kd.R_reads' hRL).2.2
    have HX_3 := Aside0.mk (HX2.out.below hb)
    have HC_3 := Aside0.mk (Kd.C_below HC2.out hb)
    have HB_3 := Aside0.mk (bstep HB2.out hb)
    have HT_3 := Aside0.mk (HT.out.below HB_3.out)
    have HE0 := Aside0.mk (eCL_0 HV.out HVB.out)
    have hm := Kd.C_max HC_3.out
    have hml := Kd.C_max HL_3.out
    have hn1 := (vCase_bd HV.out).n.1
    have hn12 := (vCase_bd HV.out).n.2
    clear hb hRL hVB hvb hokl HC1 HB1 HX2 HC2 HB2 HT
    have HCT := Aside0.mk (fun W h1 h2 => CaseText_c k Ak ck W h1 h2)
    have HRC := Aside0.mk (fun W h => ReadCase_c (csT k) (Nat.le_trans (csT_len (vC1 HV.out)) (by omega)) W h)
    simp only [tC_ok HV.out] at HCT
    simp only [(csT_back HV.out).1, (csT_back HV.out).2] at HRC
    have HFI := Aside0.mk (fun W h1 h2 => FillShelves_c k Ak ck Al cl L HOK.out HOL.out hll W h1 h2)
    have HFS := Aside0.mk (fun W h1 h2 => specFillShelves_c k Ak ck Al cl L HOK.out HOL.out hll W h1 h2)
    have HSC := Aside0.mk (fun A c W h1 h2 => specSameCase_c k k A Ak c ck W h1 h2)
    have HSI := Aside0.mk (fun A c W h1 h2 => SameCase_c k k A Ak c ck W h1 h2)
    simp only [show decide (k = k) = true from decide_eq_true rfl] at HSC HSI
    have HVC := Aside0.mk (fun W h => ValidCase_c k Ak ck W h)
    simp only [HV.out] at HVC
    have HCL := Aside0.mk (fun A2 c2 E W h1 h2 h3 => CheckLayout_c k Ak ck Al cl L A2 c2 E HOK.out HOL.out hll W h1 h2 h3)
    have HCLS := Aside0.mk (fun A2 c2 E W h1 h2 h3 => specCheckLayout_c k Ak ck Al cl L A2 c2 E HOK.out HOL.out hll W h1 h2 h3)
    have HFB := Aside0.mk (fun A2 c2 E W h1 h2 h3 => FirstBadShelf_c k Ak ck Al cl L A2 c2 E HOK.out HOL.out hll W h1 h2 h3)
    have HFBS := Aside0.mk (fun A2 c2 E W h1 h2 h3 => specFirstBadShelf_c k Ak ck Al cl L A2 c2 E HOK.out HOL.out hll W h1 h2 h3)
    have HFR := Aside0.mk (fun A2 c2 E W h1 h2 h3 => FreeOn_c k Ak ck Al cl L A2 c2 E HOK.out HOL.out hll W h1 h2 h3)
    have HUS := Aside0.mk (fun A2 c2 E W h1 h2 h3 => UsedShelves_c k Ak ck Al cl L A2 c2 E HOK.out HOL.out hll W h1 h2 h3)
    have HCO := Aside0.mk (fun A2 c2 E W h1 h2 h3 => CostOf_c k Ak ck Al cl L A2 c2 E HOK.out HOL.out hll W h1 h2 h3)
    have HFO := Aside0.mk (fun n A1 c1 M hM W h1 h2 => FitsOn_c k Ak ck n A1 c1 M HOK.out hM W h1 h2)
    simp only [Cs.val] at HCT HRC HFI HFS HSC HSI HVC HCL HCLS HFB HFBS HFR HUS HCO HFO
    obtain ⟨y0, y1, y2⟩ := HX_3.out
    go_wp2_with fail
    refine (HCT.out _ HC_3.out HT_3.out.tab).mono ?_; rintro _ w4 ⟨rfl, hb⟩
    have HX_4 := Aside0.mk (HX_3.out.below hb)
    have HC_4 := Aside0.mk (Kd.C_below HC_3.out hb)
    have HL_4 := Aside0.mk (Kd.C_below HL_3.out hb)
    have HB_4 := Aside0.mk (bstep HB_3.out hb)
    have HT_4 := Aside0.mk (HT_3.out.below hb)
    clear hb
    clear y0 y1 y2
    go_wp2_with fail
    refine (HRC.out _ HT_4.out).mono ?_; rintro _ w5 ⟨_, rfl, hb, Ab, cb, rfl, hcb, hrb⟩
    have HX_5 := Aside0.mk (HX_4.out.below hb)
    have HC_5 := Aside0.mk (Kd.C_below HC_4.out hb)
    have HL_5 := Aside0.mk (Kd.C_below HL_4.out hb)
    have HB_5 := Aside0.mk (bstep HB_4.out hb)
    have HT_5 := Aside0.mk (HT_4.out.below hb)
    clear hb
    have HCb_5 := Aside0.mk (show (Kd.int .i16).C w5 Ab k.hs.length k.hs from (Kd.R_reads' hrb).2.2)
    clear hrb
    simp only [Cs.val]
    have hxb := CsAt.box w5 k Ab cb 74
    have hb : Below w5.heap.size w5 (w5.alloc (.cells #[.int .i16 k.wd, .int .i32 k.ld, .slice Ab k.hs.length cb] 74)) := balloc (Below.refl _ _) _
    obtain ⟨y0, y1, y2⟩ := HX_5.out.below hb
    go_wp2_with fail
    generalize World.alloc w5 _ = w6 at hxb hb y0 y1 y2 ⊢
    have HX_6 := Aside0.mk (HX_5.out.below hb)
    have HC_6 := Aside0.mk (Kd.C_below HC_5.out hb)
    have HL_6 := Aside0.mk (Kd.C_below HL_5.out hb)
    have HB_6 := Aside0.mk (bstep HB_5.out hb)
    have HT_6 := Aside0.mk (HT_5.out.below hb)
    have HCb_6 := Aside0.mk (Kd.C_below HCb_5.out hb)
    clear hb
    have HXb_6 := Aside0.mk (hxb)
    clear hxb
    obtain ⟨Pb, hPb⟩ : ∃ n, w5.heap.size = n := ⟨_, rfl⟩
    rw [hPb] at HXb_6 ⊢
    clear hPb
    by_cases hfl : flAt k L k.hs.length < L.length
    · have hq := fs_over HE0.out hfl
      rw [hq.1, hq.2] at HFI HFS
      clear hq hfl
      obtain ⟨E, hE⟩ : ∃ E : List Int, [] = E := ⟨_, rfl⟩
      rw [hE] at HFI HFS
      have HSM := Aside0.mk (fun A A' c c' W h1 h2 => A2Same_c A A' c c' E E W h1 h2)
      simp only [show decide (E = E) = true from decide_eq_true rfl] at HSM
      clear hE
      refine (HFI.out _ HC_6.out HL_6.out).mono ?_; rintro _ w7 ⟨_, rfl, hb, vfi, rfl, hv⟩
      have HX_7 := Aside0.mk (HX_6.out.below hb)
      have HC_7 := Aside0.mk (Kd.C_below HC_6.out hb)
      have HL_7 := Aside0.mk (Kd.C_below HL_6.out hb)
      have HB_7 := Aside0.mk (bstep HB_6.out hb)
      have HT_7 := Aside0.mk (HT_6.out.below hb)
      have HCb_7 := Aside0.mk (Kd.C_below HCb_6.out hb)
      have HXb_7 := Aside0.mk (HXb_6.out.below hb)
      clear hb
      obtain ⟨Afi, dfi, rfl, lfi⟩ : ∃ A d, vfi = .slice A (E : List Int).length d ∧ (E : List Int).length ≤ d := by obtain ⟨A, d, e1, e2, _⟩ := Kd.R_reads hv; exact ⟨A, d, e1, e2⟩
      have Hfi_7 := Aside0.mk (show (Kd.int .i64).C w7 Afi (E : List Int).length E from (Kd.R_reads' hv).2.2)
      clear hv y0 y1 y2
      obtain ⟨y0, y1, y2⟩ := HX_7.out
      go_wp2_with fail
      refine (HFS.out _ HC_7.out HL_7.out).mono ?_; rintro _ w8 ⟨_, rfl, hb, vdu, rfl, hv⟩
      have HX_8 := Aside0.mk (HX_7.out.below hb)
      have HC_8 := Aside0.mk (Kd.C_below HC_7.out hb)
      have HL_8 := Aside0.mk (Kd.C_below HL_7.out hb)
      have HB_8 := Aside0.mk (bstep HB_7.out hb)
      have HT_8 := Aside0.mk (HT_7.out.below hb)
      have HCb_8 := Aside0.mk (Kd.C_below HCb_7.out hb)
      have HXb_8 := Aside0.mk (HXb_7.out.below hb)
      have Hfi_8 := Aside0.mk (Kd.C_below Hfi_7.out hb)
      clear hb
      obtain ⟨Adu, ddu, rfl, ldu⟩ : ∃ A d, vdu = .slice A (E : List Int).length d ∧ (E : List Int).length ≤ d := by obtain ⟨A, d, e1, e2, _⟩ := Kd.R_reads hv; exact ⟨A, d, e1, e2⟩
      have Hdu_8 := Aside0.mk (show (Kd.int .i64).C w8 Adu (E : List Int).length E from (Kd.R_reads' hv).2.2)
      clear hv y0 y1 y2
      obtain ⟨y0, y1, y2⟩ := HX_8.out
      obtain ⟨z0, z1, z2⟩ := HXb_8.out
      go_wp2_with fail
      refine (HSC.out _ _ _ HCb_8.out HC_8.out).mono ?_; rintro _ w9 ⟨rfl, hb⟩
      have HX_9 := Aside0.mk (HX_8.out.below hb)
      have HC_9 := Aside0.mk (Kd.C_below HC_8.out hb)
      have HL_9 := Aside0.mk (Kd.C_below HL_8.out hb)
      have HB_9 := Aside0.mk (bstep HB_8.out hb)
      have HT_9 := Aside0.mk (HT_8.out.below hb)
      have HCb_9 := Aside0.mk (Kd.C_below HCb_8.out hb)
      have HXb_9 := Aside0.mk (HXb_8.out.below hb)
      have Hfi_9 := Aside0.mk (Kd.C_below Hfi_8.out hb)
      have Hdu_9 := Aside0.mk (Kd.C_below Hdu_8.out hb)
      clear hb
      clear y0 y1 y2 z0 z1 z2
      obtain ⟨y0, y1, y2⟩ := HX_9.out
      obtain ⟨z0, z1, z2⟩ := HXb_9.out
      go_wp2_with fail
      refine (HSI.out _ _ _ HCb_9.out HC_9.out).mono ?_; rintro _ w10 ⟨rfl, hb⟩
      have HX_10 := Aside0.mk (HX_9.out.below hb)
      have HC_10 := Aside0.mk (Kd.C_below HC_9.out hb)
      have HL_10 := Aside0.mk (Kd.C_below HL_9.out hb)
      have HB_10 := Aside0.mk (bstep HB_9.out hb)
      have HT_10 := Aside0.mk (HT_9.out.below hb)
      have HCb_10 := Aside0.mk (Kd.C_below HCb_9.out hb)
      have HXb_10 := Aside0.mk (HXb_9.out.below hb)
      have Hfi_10 := Aside0.mk (Kd.C_below Hfi_9.out hb)
      have Hdu_10 := Aside0.mk (Kd.C_below Hdu_9.out hb)
      clear hb
      clear y0 y1 y2 z0 z1 z2
      obtain ⟨y0, y1, y2⟩ := HX_10.out
      go_wp2_with fail
      refine (HVC.out _ HC_10.out).mono ?_; rintro _ w11 ⟨rfl, hb⟩
      have HX_11 := Aside0.mk (HX_10.out.below hb)
      have HC_11 := Aside0.mk (Kd.C_below HC_10.out hb)
      have HL_11 := Aside0.mk (Kd.C_below HL_10.out hb)
      have HB_11 := Aside0.mk (bstep HB_10.out hb)
      have HT_11 := Aside0.mk (HT_10.out.below hb)
      have HCb_11 := Aside0.mk (Kd.C_below HCb_10.out hb)
      have HXb_11 := Aside0.mk (HXb_10.out.below hb)
      have Hfi_11 := Aside0.mk (Kd.C_below Hfi_10.out hb)
      have Hdu_11 := Aside0.mk (Kd.C_below Hdu_10.out hb)
      clear hb
      clear y0 y1 y2
      go_wp2_with fail
      refine (HSM.out _ _ _ _ _ Hfi_11.out Hdu_11.out).mono ?_; rintro _ w12 ⟨rfl, hb⟩
      have HX_12 := Aside0.mk (HX_11.out.below hb)
      have HC_12 := Aside0.mk (Kd.C_below HC_11.out hb)
      have HL_12 := Aside0.mk (Kd.C_below HL_11.out hb)
      have HB_12 := Aside0.mk (bstep HB_11.out hb)
      have HT_12 := Aside0.mk (HT_11.out.below hb)
      have HCb_12 := Aside0.mk (Kd.C_below HCb_11.out hb)
      have HXb_12 := Aside0.mk (HXb_11.out.below hb)
      have Hfi_12 := Aside0.mk (Kd.C_below Hfi_11.out hb)
      have Hdu_12 := Aside0.mk (Kd.C_below Hdu_11.out hb)
      clear hb
      go_wp2
      go_ret
      exact ⟨rfl, HB_12.out⟩
    · have hq := fs_ok HE0.out hfl
      have HY := Aside0.mk (fl_lay HV.out HVB.out hfl)
      have HOV := Aside0.mk (fun s hs h => fl_over (k := k) (L := L) (s := s) hs h)
      rw [hq.1, hq.2] at HFI HFS
      generalize flEnds k L k.hs.length = E at HFI HFS HY HOV
      clear hq hfl
      have HSM := Aside0.mk (fun A A' c c' W h1 h2 => A2Same_c A A' c c' E E W h1 h2)
      simp only [show decide (E = E) = true from decide_eq_true rfl] at HSM
      have HEN := Aside0.mk HY.out.n
      have HLC := Aside0.mk (layC_of HY.out)
      have HC1 := Aside0.mk (fun A2 c2 W h1 h2 h3 => HCL.out A2 c2 E W h1 h2 h3)
      have HF1 := Aside0.mk (fun A2 c2 W h1 h2 h3 => HFB.out A2 c2 E W h1 h2 h3)
      have HR1 := Aside0.mk (fun A2 c2 W h1 h2 h3 => HFR.out A2 c2 E W h1 h2 h3)
      have HU1 := Aside0.mk (fun A2 c2 W h1 h2 h3 => HUS.out A2 c2 E W h1 h2 h3)
      have HO1' := Aside0.mk (fun A2 c2 W h1 h2 h3 => HCO.out A2 c2 E W h1 h2 h3)
      have HBN := Aside0.mk (lay_neg HLC.out HE0.out)
      simp only [(cl_ok HE0.out).1, HE0.out, decide_eq_true HBN.out] at HC1
      simp only [(fb_ok HE0.out).1, (fb_ok HE0.out).2, if_pos HBN.out] at HF1
      simp only [fr_ok HLC.out, HLC.out] at HR1
      simp only [co_ok HLC.out, HLC.out] at HU1 HO1'
      obtain ⟨FR, hFR⟩ : ∃ F, frN k L E E.length = F := ⟨_, rfl⟩
      have HFN := Aside0.mk (show FR.length = k.hs.length by rw [← hFR, frN_len]; exact HEN.out)
      have HFA := Aside0.mk (fun (s : Nat) (h : s < E.length) => show FR[s]? = some (frL k (shB L E s)) by rw [← hFR]; exact frN_at h)
      rw [hFR] at HR1
      clear hFR
      refine (HFI.out _ HC_6.out HL_6.out).mono ?_; rintro _ w7 ⟨_, rfl, hb, vfi, rfl, hv⟩
      have HX_7 := Aside0.mk (HX_6.out.below hb)
      have HC_7 := Aside0.mk (Kd.C_below HC_6.out hb)
      have HL_7 := Aside0.mk (Kd.C_below HL_6.out hb)
      have HB_7 := Aside0.mk (bstep HB_6.out hb)
      have HT_7 := Aside0.mk (HT_6.out.below hb)
      have HCb_7 := Aside0.mk (Kd.C_below HCb_6.out hb)
      have HXb_7 := Aside0.mk (HXb_6.out.below hb)
      clear hb
      obtain ⟨Afi, dfi, rfl, lfi⟩ : ∃ A d, vfi = .slice A (E : List Int).length d ∧ (E : List Int).length ≤ d := by obtain ⟨A, d, e1, e2, _⟩ := Kd.R_reads hv; exact ⟨A, d, e1, e2⟩
      have Hfi_7 := Aside0.mk (show (Kd.int .i64).C w7 Afi (E : List Int).length E from (Kd.R_reads' hv).2.2)
      clear hv y0 y1 y2
      obtain ⟨y0, y1, y2⟩ := HX_7.out
      go_wp2_with fail
      refine (HFS.out _ HC_7.out HL_7.out).mono ?_; rintro _ w8 ⟨_, rfl, hb, vdu, rfl, hv⟩
      have HX_8 := Aside0.mk (HX_7.out.below hb)
      have HC_8 := Aside0.mk (Kd.C_below HC_7.out hb)
      have HL_8 := Aside0.mk (Kd.C_below HL_7.out hb)
      have HB_8 := Aside0.mk (bstep HB_7.out hb)
      have HT_8 := Aside0.mk (HT_7.out.below hb)
      have HCb_8 := Aside0.mk (Kd.C_below HCb_7.out hb)
      have HXb_8 := Aside0.mk (HXb_7.out.below hb)
      have Hfi_8 := Aside0.mk (Kd.C_below Hfi_7.out hb)
      clear hb
      obtain ⟨Adu, ddu, rfl, ldu⟩ : ∃ A d, vdu = .slice A (E : List Int).length d ∧ (E : List Int).length ≤ d := by obtain ⟨A, d, e1, e2, _⟩ := Kd.R_reads hv; exact ⟨A, d, e1, e2⟩
      have Hdu_8 := Aside0.mk (show (Kd.int .i64).C w8 Adu (E : List Int).length E from (Kd.R_reads' hv).2.2)
      clear hv y0 y1 y2
      obtain ⟨y0, y1, y2⟩ := HX_8.out
      obtain ⟨z0, z1, z2⟩ := HXb_8.out
      go_wp2_with fail
      refine (HSC.out _ _ _ HCb_8.out HC_8.out).mono ?_; rintro _ w9 ⟨rfl, hb⟩
      have HX_9 := Aside0.mk (HX_8.out.below hb)
      have HC_9 := Aside0.mk (Kd.C_below HC_8.out hb)
      have HL_9 := Aside0.mk (Kd.C_below HL_8.out hb)
      have HB_9 := Aside0.mk (bstep HB_8.out hb)
      have HT_9 := Aside0.mk (HT_8.out.below hb)
      have HCb_9 := Aside0.mk (Kd.C_below HCb_8.out hb)
      have HXb_9 := Aside0.mk (HXb_8.out.below hb)
      have Hfi_9 := Aside0.mk (Kd.C_below Hfi_8.out hb)
      have Hdu_9 := Aside0.mk (Kd.C_below Hdu_8.out hb)
      clear hb
      clear y0 y1 y2 z0 z1 z2
      obtain ⟨y0, y1, y2⟩ := HX_9.out
      obtain ⟨z0, z1, z2⟩ := HXb_9.out
      go_wp2_with fail
      refine (HSI.out _ _ _ HCb_9.out HC_9.out).mono ?_; rintro _ w10 ⟨rfl, hb⟩
      have HX_10 := Aside0.mk (HX_9.out.below hb)
      have HC_10 := Aside0.mk (Kd.C_below HC_9.out hb)
      have HL_10 := Aside0.mk (Kd.C_below HL_9.out hb)
      have HB_10 := Aside0.mk (bstep HB_9.out hb)
      have HT_10 := Aside0.mk (HT_9.out.below hb)
      have HCb_10 := Aside0.mk (Kd.C_below HCb_9.out hb)
      have HXb_10 := Aside0.mk (HXb_9.out.below hb)
      have Hfi_10 := Aside0.mk (Kd.C_below Hfi_9.out hb)
      have Hdu_10 := Aside0.mk (Kd.C_below Hdu_9.out hb)
      clear hb
      clear y0 y1 y2 z0 z1 z2
      obtain ⟨y0, y1, y2⟩ := HX_10.out
      go_wp2_with fail
      refine (HVC.out _ HC_10.out).mono ?_; rintro _ w11 ⟨rfl, hb⟩
      have HX_11 := Aside0.mk (HX_10.out.below hb)
      have HC_11 := Aside0.mk (Kd.C_below HC_10.out hb)
      have HL_11 := Aside0.mk (Kd.C_below HL_10.out hb)
      have HB_11 := Aside0.mk (bstep HB_10.out hb)
      have HT_11 := Aside0.mk (HT_10.out.below hb)
      have HCb_11 := Aside0.mk (Kd.C_below HCb_10.out hb)
      have HXb_11 := Aside0.mk (HXb_10.out.below hb)
      have Hfi_11 := Aside0.mk (Kd.C_below Hfi_10.out hb)
      have Hdu_11 := Aside0.mk (Kd.C_below Hdu_10.out hb)
      clear hb
      clear y0 y1 y2
      go_wp2_with fail
      refine (HSM.out _ _ _ _ _ Hfi_11.out Hdu_11.out).mono ?_; rintro _ w12 ⟨rfl, hb⟩
      have HX_12 := Aside0.mk (HX_11.out.below hb)
      have HC_12 := Aside0.mk (Kd.C_below HC_11.out hb)
      have HL_12 := Aside0.mk (Kd.C_below HL_11.out hb)
      have HB_12 := Aside0.mk (bstep HB_11.out hb)
      have HT_12 := Aside0.mk (HT_11.out.below hb)
      have HCb_12 := Aside0.mk (Kd.C_below HCb_11.out hb)
      have HXb_12 := Aside0.mk (HXb_11.out.below hb)
      have Hfi_12 := Aside0.mk (Kd.C_below Hfi_11.out hb)
      have Hdu_12 := Aside0.mk (Kd.C_below Hdu_11.out hb)
      clear hb
      obtain ⟨y0, y1, y2⟩ := HX_12.out
      go_wp2_with fail
      refine (HC1.out _ _ _ HC_12.out HL_12.out Hdu_12.out).mono ?_; rintro _ w13 ⟨rfl, hb⟩
      have HX_13 := Aside0.mk (HX_12.out.below hb)
      have HC_13 := Aside0.mk (Kd.C_below HC_12.out hb)
      have HL_13 := Aside0.mk (Kd.C_below HL_12.out hb)
      have HB_13 := Aside0.mk (bstep HB_12.out hb)
      have HT_13 := Aside0.mk (HT_12.out.below hb)
      have HCb_13 := Aside0.mk (Kd.C_below HCb_12.out hb)
      have HXb_13 := Aside0.mk (HXb_12.out.below hb)
      have Hfi_13 := Aside0.mk (Kd.C_below Hfi_12.out hb)
      have Hdu_13 := Aside0.mk (Kd.C_below Hdu_12.out hb)
      clear hb
      clear y0 y1 y2
      obtain ⟨y0, y1, y2⟩ := HX_13.out
      go_wp2_with fail
      refine (HF1.out _ _ _ HC_13.out HL_13.out Hdu_13.out).mono ?_; rintro _ w14 ⟨rfl, hb⟩
      have HX_14 := Aside0.mk (HX_13.out.below hb)
      have HC_14 := Aside0.mk (Kd.C_below HC_13.out hb)
      have HL_14 := Aside0.mk (Kd.C_below HL_13.out hb)
      have HB_14 := Aside0.mk (bstep HB_13.out hb)
      have HT_14 := Aside0.mk (HT_13.out.below hb)
      have HCb_14 := Aside0.mk (Kd.C_below HCb_13.out hb)
      have HXb_14 := Aside0.mk (HXb_13.out.below hb)
      have Hfi_14 := Aside0.mk (Kd.C_below Hfi_13.out hb)
      have Hdu_14 := Aside0.mk (Kd.C_below Hdu_13.out hb)
      clear hb
      clear y0 y1 y2
      obtain ⟨y0, y1, y2⟩ := HX_14.out
      go_wp2_with fail
      refine (HR1.out _ _ _ HC_14.out HL_14.out Hdu_14.out).mono ?_; rintro _ w15 ⟨_, rfl, hb, vfr, rfl, hv⟩
      have HX_15 := Aside0.mk (HX_14.out.below hb)
      have HC_15 := Aside0.mk (Kd.C_below HC_14.out hb)
      have HL_15 := Aside0.mk (Kd.C_below HL_14.out hb)
      have HB_15 := Aside0.mk (bstep HB_14.out hb)
      have HT_15 := Aside0.mk (HT_14.out.below hb)
      have HCb_15 := Aside0.mk (Kd.C_below HCb_14.out hb)
      have HXb_15 := Aside0.mk (HXb_14.out.below hb)
      have Hfi_15 := Aside0.mk (Kd.C_below Hfi_14.out hb)
      have Hdu_15 := Aside0.mk (Kd.C_below Hdu_14.out hb)
      clear hb
      obtain ⟨Afr, dfr, rfl, lfr⟩ : ∃ A d, vfr = .slice A FR.length d ∧ FR.length ≤ d := by obtain ⟨A, d, e1, e2, _⟩ := Kd.R_reads hv; exact ⟨A, d, e1, e2⟩
      have Hfr_15 := Aside0.mk (show (Kd.int .i64).C w15 Afr FR.length FR from (Kd.R_reads' hv).2.2)
      clear hv
      clear y0 y1 y2
      obtain ⟨y0, y1, y2⟩ := HX_15.out
      go_wp2_with fail
      refine (HO1'.out _ _ _ HC_15.out HL_15.out Hdu_15.out).mono ?_; rintro _ w16 ⟨rfl, hb⟩
      have HX_16 := Aside0.mk (HX_15.out.below hb)
      have HC_16 := Aside0.mk (Kd.C_below HC_15.out hb)
      have HL_16 := Aside0.mk (Kd.C_below HL_15.out hb)
      have HB_16 := Aside0.mk (bstep HB_15.out hb)
      have HT_16 := Aside0.mk (HT_15.out.below hb)
      have HCb_16 := Aside0.mk (Kd.C_below HCb_15.out hb)
      have HXb_16 := Aside0.mk (HXb_15.out.below hb)
      have Hfi_16 := Aside0.mk (Kd.C_below Hfi_15.out hb)
      have Hdu_16 := Aside0.mk (Kd.C_below Hdu_15.out hb)
      have Hfr_16 := Aside0.mk (Kd.C_below Hfr_15.out hb)
      clear hb
      clear y0 y1 y2
      obtain ⟨y0, y1, y2⟩ := HX_16.out
      go_wp2_with fail
      refine (HU1.out _ _ _ HC_16.out HL_16.out Hdu_16.out).mono ?_; rintro _ w17 ⟨rfl, hb⟩
      have HX_17 := Aside0.mk (HX_16.out.below hb)
      have HC_17 := Aside0.mk (Kd.C_below HC_16.out hb)
      have HL_17 := Aside0.mk (Kd.C_below HL_16.out hb)
      have HB_17 := Aside0.mk (bstep HB_16.out hb)
      have HT_17 := Aside0.mk (HT_16.out.below hb)
      have HCb_17 := Aside0.mk (Kd.C_below HCb_16.out hb)
      have HXb_17 := Aside0.mk (HXb_16.out.below hb)
      have Hfi_17 := Aside0.mk (Kd.C_below Hfi_16.out hb)
      have Hdu_17 := Aside0.mk (Kd.C_below Hdu_16.out hb)
      have Hfr_17 := Aside0.mk (Kd.C_below Hfr_16.out hb)
      clear hb
      clear y0 y1 y2
      obtain ⟨y0, y1, y2⟩ := HX_17.out
      have n1 : ((FR.length : Int) != (k.hs.length : Int)) = false := by rw [HFN.out]; simp
      have n1' : (FR.length != k.hs.length) = false := by rw [HFN.out]; simp
      have n2 : ((E.length : Int) != (k.hs.length : Int)) = false := by rw [HEN.out]; simp
      have n2' : (E.length != k.hs.length) = false := by rw [HEN.out]; simp
      go_wp2_with fail
      clear n1 n1' n2 n2' HC1 HF1 HR1 HU1 HO1' HFI HFS HSC HSI HVC HCT HRC y0 y1 y2
      go_loopg [23, 24, 25, 26] E.length (fun gk v23 v24 v25 v26 wr => ∃ s : Nat, s + gk = E.length ∧ v26 = .int .i64 s ∧ v25 = .int .i64 (bef E s) ∧ v23 = .int .i64 (sumN (ssL k L E false) s) ∧ v24 = .int .i64 (sumN (ssL k L E true) s) ∧ Aside0 (Below w17.heap.size w17 wr))
      case atStart => exact ⟨0, by omega, rfl, rfl, rfl, rfl, ⟨Below.refl _ _⟩⟩
      case round =>
        obtain ⟨s, hk, rfl, rfl, rfl, rfl, HZ⟩ := hrel
        have HK := Aside0.mk hk
        by_cases hlt : s < E.length
        · obtain ⟨adE, e, rfl, hbe, hxe⟩ := at_int' (Kd.C_below Hdu_17.out HZ.out) s hlt
          obtain ⟨adF, fr, rfl, hbf, hxf⟩ := at_int' (Kd.C_below Hfr_17.out HZ.out) s (by have := HFN.out; have := HEN.out; omega)
          have HFL := Aside0.mk (FlAt.of HY.out HOV.out hlt hbe.out (HFA.out s hlt) hbf.out)
          have HSU := Aside0.mk (show sumN (ssL k L E false) (s + 1) = sumN (ssL k L E false) s + ssL k L E false s ∧ sumN (ssL k L E true) (s + 1) = sumN (ssL k L E true) s + ssL k L E true s from ⟨rfl, rfl⟩)
          have HBF := Aside0.mk (bef_succ hbe.out)
          obtain ⟨sa0, sa1⟩ := sumN_bd HY.out false s (by omega)
          obtain ⟨sb0, sb1⟩ := sumN_bd HY.out true s (by omega)
          have hs12 : s ≤ 12 := by have := HEN.out; omega
          have HLT := Aside0.mk hlt
          generalize sumN (ssL k L E false) s = sa at HSU sa0 sa1 ⊢
          generalize sumN (ssL k L E true) s = sb at HSU sb0 sb1 ⊢
          obtain ⟨f, hf⟩ : ∃ f : Nat, bef E s = (f : Int) := Int.eq_ofNat_of_zero_le (HFL.out.nn)
          obtain ⟨en, rfl⟩ : ∃ n : Nat, e = (n : Int) := Int.eq_ofNat_of_zero_le (Int.le_trans HFL.out.nn HFL.out.le)
          rw [hf] at HFL ⊢
          clear hf
          have g1 : f ≤ en := by have := HFL.out.le; omega
          have g2 : en ≤ L.length := by have := HFL.out.lt; omega
          have HEN2 := Aside0.mk HEN.out
          have i0 : (0 : Int) ≤ (s : Int) := by omega
          have i1 : (s : Int) < (E.length : Int) := by omega
          have i2 : (s : Int) < (FR.length : Int) := by have := HFN.out; have := HEN.out; omega
          have j1 : ¬ ((en : Int) < (f : Int)) := by omega
          have j2 : ¬ ((L.length : Int) < (en : Int)) := by omega
          clear hk
          go_wp2_with fail
          clear hxe hxf j1 j2
          obtain ⟨gs, rfl⟩ : ∃ g : Nat, g = gk := ⟨_, rfl⟩
          obtain ⟨wi, rfl⟩ : ∃ W : World, W = wr := ⟨_, rfl⟩
          go_loopg [27, 28] (en - f) (fun gk v27 v28 wr => ∃ i : Nat, f ≤ i ∧ i + gk = en ∧ v28 = .int .i64 i ∧ v27 = .int .i64 (wdS L (f : Int) (i : Int)) ∧ Aside0 (Below w17.heap.size w17 wr))
          case atStart => exact ⟨f, Nat.le_refl _, by omega, rfl, by rw [wdS_nil], HZ⟩
          case round =>
            clear HZ
            obtain ⟨i, hfi, hk, rfl, rfl, HZ⟩ := hrel
            have HKi := Aside0.mk hk
            have HFi := Aside0.mk hfi
            obtain ⟨adE', e', e1, hbe', hxe⟩ := at_int' (Kd.C_below Hdu_17.out HZ.out) s hlt
            cases e1
            obtain rfl : e' = (en : Int) := by have h1 := hbe'.out; rw [hbe.out] at h1; exact (Option.some.inj h1).symm
            by_cases hie : i < en
            · obtain ⟨adL, x, rfl, hx, x0, x1, x2, x3, x4, x5, x6, x7⟩ := at_bk (Kd.C_below HL_17.out HZ.out) i (by omega)
              have HST := Aside0.mk (wdS_step (FitOk.of HVB.out) (a := (f : Int)) (i := i) (by omega) (by omega) hx.out)
              have hbd := wdS_bd (FitOk.of HVB.out) (f : Int) (i : Int)
              have hbx := ((FitOk.of HVB.out).bk x (mem_of hx.out)).1
              generalize wdS L (f : Int) (i : Int) = W0 at HST hbd ⊢
              have l1 : (i : Int) < (en : Int) := by omega
              have l2 : (0 : Int) ≤ (i : Int) := by omega
              have l3 : (i : Int) < (L.length : Int) := by omega
              have t1 : IntKind.i64.wrap x.wd = x.wd := by rw [IntKind.wrap_i64]; omega
              have t1' : wrap64 x.wd = x.wd := by unfold wrap64; omega
              have t2 : IntKind.i64.wrap (W0 + x.wd) = W0 + x.wd := by rw [IntKind.wrap_i64]; omega
              have t3 : IntKind.i64.wrap ((i : Int) + 1) = (i : Int) + 1 := by rw [IntKind.wrap_i64]; omega
              clear hk hfi hie
              go_wp2
              go_roundg (gk - 1)
              case measure => have := HKi.out; omega
              case rel => exact ⟨i + 1, by have := HFi.out; omega, by have := HKi.out; omega, by go_num, by rw [show ((i + 1 : Nat) : Int) = (i : Int) + 1 by omega, HST.out], HZ⟩
            · have hii : i = en := by omega
              obtain ⟨adF', fr', e1, hbf', hxf⟩ := at_int' (Kd.C_below Hfr_17.out HZ.out) s (by have := HFN.out; have := HEN.out; omega)
              cases e1
              obtain rfl : fr' = fr := by have h1 := hbf'.out; rw [hbf.out] at h1; exact (Option.some.inj h1).symm
              have hie' : ¬ (i : Int) < (en : Int) := by omega
              have HII := Aside0.mk (show wdS L (f : Int) (i : Int) = wdS L (f : Int) (en : Int) by rw [hii])
              rw [HII.out]
              have HFQ := Aside0.mk HFL.out.frq
              have hbd := wdS_bd (FitOk.of HVB.out) (f : Int) (en : Int)
              have hkw := (vCase_bd HV.out).wd
              have hfr0 := HFL.out.pos
              generalize wdS L (f : Int) (en : Int) = W0 at HFQ hbd ⊢
              have hfq : fr' = k.wd - W0 := HFQ.out
              have t1 : IntKind.i64.wrap k.wd = k.wd := by rw [IntKind.wrap_i64]; omega
              have t1' : wrap64 k.wd = k.wd := by unfold wrap64; omega
              have t2 : IntKind.i64.wrap (k.wd - W0) = k.wd - W0 := by rw [IntKind.wrap_i64]; omega
              have q1 : (fr' != k.wd - W0) = false := by rw [hfq]; simp
              have q2 : decide (fr' < 0) = false := decide_eq_false (by omega)
              have q2' : ¬ fr' < 0 := by omega
              have HFQ2 := Aside0.mk (show 0 ≤ fr' ∧ fr' ≤ 2000 by omega)
              obtain ⟨y0, y1, y2⟩ := HX_17.out.below HZ.out
              have yO0 : ∀ p : Over wr, _ := Over.cell y0
              have fO : ∀ p : Over wr, _ := Over.cell hxf
              clear hk hfi hie hii hfq hfr0 hbd
              go_wp2_with fail
              refine region_over (by kernel_rfl) (by kernel_rfl) ?_
              repeat (go_big_quiet_step (fail))
              refine wpQuiet_nil ?_
              intro wa hw'
              have hq_wa := over_out hw'
              clear hw'
              have HZa := Aside0.mk (bstep HZ.out hq_wa)
              clear hq_wa yO0 fO y0 y1 y2 hxe hxf t1 t1' t2 q1 q2 q2' hkw
              obtain ⟨A', c', hcut, hc', hCC⟩ := cut_bk Al cl L (f : Int) (en : Int) (by omega) (by omega) (by omega) hll
              have HCC := Aside0.mk hCC
              have HFO1 := Aside0.mk (fun W h1 h2 => HFO.out (s : Int) A' c' (subL L (f : Int) (en : Int)) (fun b hb => HOL.out b ((subL_sub L _ _).subset hb)) W h1 h2)
              simp only [HFL.out.fo.1, HFL.out.fo.2] at HFO1
              obtain ⟨y0, y1, y2⟩ := HX_17.out.below HZa.out
              obtain ⟨adE', e', e1, hbe', hxe⟩ := at_int' (Kd.C_below Hdu_17.out HZa.out) s hlt
              cases e1
              obtain rfl : e' = (en : Int) := by have h1 := hbe'.out; rw [hbe.out] at h1; exact (Option.some.inj h1).symm
              have yO0 : ∀ p : Over wa, _ := Over.cell y0
              have yO1 : ∀ p : Over wa, _ := Over.cell y1
              have yO2 : ∀ p : Over wa, _ := Over.cell y2
              have eO : ∀ p : Over wa, _ := Over.cell hxe
              clear hCC
              go_wp2_with fail
              refine region_over (by kernel_rfl) (by kernel_rfl) ?_
              repeat (go_big_quiet_step (first | (go_at_call 61; exact Calls.over_of (HFO1.out _ (Kd.C_below HC_17.out (HZa.out.trans ((Over.h _).mono HZa.out.size))) (HCC.out _ (Kd.C_below HL_17.out (HZa.out.trans ((Over.h _).mono HZa.out.size))))))))
              refine wpQuiet_nil ?_
              intro wb hw'
              have hq_wb := over_out hw'
              clear hw'
              have HZb := Aside0.mk (bstep HZa.out hq_wb)
              clear hq_wb yO0 yO1 yO2 eO y0 y1 y2 hxe hcut HCC HFO1 hc'
              obtain ⟨adE', e', e1, hbe', hxe⟩ := at_int' (Kd.C_below Hdu_17.out HZb.out) s hlt
              cases e1
              obtain rfl : e' = (en : Int) := by have h1 := hbe'.out; rw [hbe.out] at h1; exact (Option.some.inj h1).symm
              by_cases hel : en < L.length
              · have o0 : (en : Int) < (L.length : Int) := by omega
                obtain ⟨A', c', hcut, hc', hCC⟩ := cut_bk Al cl L (f : Int) ((en : Int) + 1) (by omega) (by omega) (by omega) hll
                have HCC := Aside0.mk hCC
                have HFO1 := Aside0.mk (fun W h1 h2 => HFO.out (s : Int) A' c' (subL L (f : Int) ((en : Int) + 1)) (fun b hb => HOL.out b ((subL_sub L _ _).subset hb)) W h1 h2)
                simp only [(HFL.out.ov (by omega)).1, (HFL.out.ov (by omega)).2] at HFO1
                obtain ⟨y0, y1, y2⟩ := HX_17.out.below HZb.out
                have t3 : IntKind.i64.wrap ((en : Int) + 1) = (en : Int) + 1 := by rw [IntKind.wrap_i64]; omega
                have yO0 : ∀ p : Over wb, _ := Over.cell y0
                have yO1 : ∀ p : Over wb, _ := Over.cell y1
                have yO2 : ∀ p : Over wb, _ := Over.cell y2
                have eO : ∀ p : Over wb, _ := Over.cell hxe
                clear hCC hel
                go_wp2_with fail
                refine region_over (by kernel_rfl) (by kernel_rfl) ?_
                repeat (go_big_quiet_step (first | (go_at_call 61; exact Calls.over_of (HFO1.out _ (Kd.C_below HC_17.out (HZb.out.trans ((Over.h _).mono HZb.out.size))) (HCC.out _ (Kd.C_below HL_17.out (HZb.out.trans ((Over.h _).mono HZb.out.size))))))))
                refine wpQuiet_nil ?_
                intro wc hw'
                have hq_wc := over_out hw'
                clear hw'
                have HZc := Aside0.mk (bstep HZb.out hq_wc)
                clear hq_wc yO0 yO1 yO2 eO y0 y1 y2 hxe hcut HCC HFO1 hc' t3 o0
                obtain ⟨adE', e', e1, hbe', hxe⟩ := at_int' (Kd.C_below Hdu_17.out HZc.out) s hlt
                cases e1
                obtain rfl : e' = (en : Int) := by have h1 := hbe'.out; rw [hbe.out] at h1; exact (Option.some.inj h1).symm
                obtain ⟨adF', fr2, e1, hbf2, hxf⟩ := at_int' (Kd.C_below Hfr_17.out HZc.out) s (by have := HFN.out; have := HEN.out; omega)
                cases e1
                obtain rfl : fr2 = fr' := by have h1 := hbf2.out; rw [hbf'.out] at h1; exact (Option.some.inj h1).symm
                by_cases hpe : f < en
                · have o1 : (f : Int) < (en : Int) := by omega
                  obtain ⟨q0, q9⟩ := HFQ2.out
                  have hsq := sq_bd q0 q9
                  have t4 : IntKind.i64.wrap (fr2 * fr2) = fr2 * fr2 := by rw [IntKind.wrap_i64]; omega
                  have t5 : IntKind.i64.wrap (sa + fr2 * fr2) = sa + fr2 * fr2 := by rw [IntKind.wrap_i64]; omega
                  have t6 : IntKind.i64.wrap (sb + 1) = sb + 1 := by rw [IntKind.wrap_i64]; omega
                  have HSP := Aside0.mk (HFL.out.sp (by omega))
                  have fO : ∀ p : Over wc, _ := Over.cell hxf
                  clear hpe hsq q0 q9
                  go_wp2_with fail
                  refine region_over (by kernel_rfl) (by kernel_rfl) ?_
                  repeat (go_big_quiet_step (fail))
                  refine wpQuiet_nil ?_
                  intro wcq hw'
                  have hq_wcq := over_out hw'
                  clear hw'
                  have HZq := Aside0.mk (bstep HZc.out hq_wcq)
                  clear hq_wcq fO hxe hxf
                  obtain ⟨adE', e', e1, hbe', hxe⟩ := at_int' (Kd.C_below Hdu_17.out HZq.out) s hlt
                  cases e1
                  obtain rfl : e' = (en : Int) := by have h1 := hbe'.out; rw [hbe.out] at h1; exact (Option.some.inj h1).symm
                  go_wp2
                  go_roundg (gs - 1)
                  case measure => have := HK.out; omega
                  case rel => exact ⟨s + 1, by have := HK.out; omega, by go_num, by rw [HBF.out], by rw [HSU.out.1, HSP.out.1], by rw [HSU.out.2, HSP.out.2], HZq⟩
                · have o1 : ¬ (f : Int) < (en : Int) := by omega
                  have HSP := Aside0.mk (HFL.out.sn (by omega))
                  clear hpe
                  go_wp2
                  go_roundg (gs - 1)
                  case measure => have := HK.out; omega
                  case rel => exact ⟨s + 1, by have := HK.out; omega, by go_num, by rw [HBF.out], by rw [HSU.out.1, HSP.out.1, Int.add_zero], by rw [HSU.out.2, HSP.out.2, Int.add_zero], HZc⟩
              · have o0 : ¬ (en : Int) < (L.length : Int) := by omega
                clear hel hxe
                obtain ⟨adE', e', e1, hbe', hxe⟩ := at_int' (Kd.C_below Hdu_17.out HZb.out) s hlt
                cases e1
                obtain rfl : e' = (en : Int) := by have h1 := hbe'.out; rw [hbe.out] at h1; exact (Option.some.inj h1).symm
                obtain ⟨adF', fr2, e1, hbf2, hxf⟩ := at_int' (Kd.C_below Hfr_17.out HZb.out) s (by have := HFN.out; have := HEN.out; omega)
                cases e1
                obtain rfl : fr2 = fr' := by have h1 := hbf2.out; rw [hbf'.out] at h1; exact (Option.some.inj h1).symm
                by_cases hpe : f < en
                · have o1 : (f : Int) < (en : Int) := by omega
                  obtain ⟨q0, q9⟩ := HFQ2.out
                  have hsq := sq_bd q0 q9
                  have t4 : IntKind.i64.wrap (fr2 * fr2) = fr2 * fr2 := by rw [IntKind.wrap_i64]; omega
                  have t5 : IntKind.i64.wrap (sa + fr2 * fr2) = sa + fr2 * fr2 := by rw [IntKind.wrap_i64]; omega
                  have t6 : IntKind.i64.wrap (sb + 1) = sb + 1 := by rw [IntKind.wrap_i64]; omega
                  have HSP := Aside0.mk (HFL.out.sp (by omega))
                  have fO : ∀ p : Over wb, _ := Over.cell hxf
                  clear hpe hsq q0 q9
                  go_wp2_with fail
                  refine region_over (by kernel_rfl) (by kernel_rfl) ?_
                  repeat (go_big_quiet_step (fail))
                  refine wpQuiet_nil ?_
                  intro wbq hw'
                  have hq_wbq := over_out hw'
                  clear hw'
                  have HZq := Aside0.mk (bstep HZb.out hq_wbq)
                  clear hq_wbq fO hxe hxf
                  obtain ⟨adE', e', e1, hbe', hxe⟩ := at_int' (Kd.C_below Hdu_17.out HZq.out) s hlt
                  cases e1
                  obtain rfl : e' = (en : Int) := by have h1 := hbe'.out; rw [hbe.out] at h1; exact (Option.some.inj h1).symm
                  go_wp2
                  go_roundg (gs - 1)
                  case measure => have := HK.out; omega
                  case rel => exact ⟨s + 1, by have := HK.out; omega, by go_num, by rw [HBF.out], by rw [HSU.out.1, HSP.out.1], by rw [HSU.out.2, HSP.out.2], HZq⟩
                · have o1 : ¬ (f : Int) < (en : Int) := by omega
                  have HSP := Aside0.mk (HFL.out.sn (by omega))
                  clear hpe
                  go_wp2
                  go_roundg (gs - 1)
                  case measure => have := HK.out; omega
                  case rel => exact ⟨s + 1, by have := HK.out; omega, by go_num, by rw [HBF.out], by rw [HSU.out.1, HSP.out.1, Int.add_zero], by rw [HSU.out.2, HSP.out.2, Int.add_zero], HZb⟩
        · have hse : s = E.length := by omega
          have hns : ¬ ((s : Int) < (E.length : Int)) := by omega
          obtain ⟨wq, rfl⟩ : ∃ W : World, W = wr := ⟨_, rfl⟩
          have hb := HZ.out
          obtain ⟨w18, rfl⟩ : ∃ W : World, W = wq := ⟨_, rfl⟩
          have HX_18 := Aside0.mk (HX_17.out.below hb)
          have HC_18 := Aside0.mk (Kd.C_below HC_17.out hb)
          have HL_18 := Aside0.mk (Kd.C_below HL_17.out hb)
          have HB_18 := Aside0.mk (bstep HB_17.out hb)
          have HT_18 := Aside0.mk (HT_17.out.below hb)
          have Hdu_18 := Aside0.mk (Kd.C_below Hdu_17.out hb)
          clear hb
          have HLA := Aside0.mk (show bef E s = (L.length : Int) by rw [hse]; exact HY.out.last)
          have HS1 := Aside0.mk (show sumN (ssL k L E false) s = sumN (ssL k L E false) E.length by rw [hse])
          have HS2 := Aside0.mk (show sumN (ssL k L E true) s = sumN (ssL k L E true) E.length by rw [hse])
          rw [HLA.out, HS1.out, HS2.out]
          generalize sumN (ssL k L E false) E.length = ca
          generalize sumN (ssL k L E true) E.length = cu
          clear hk hse hlt HZ HLA HS1 HS2
          have HEL := Aside0.mk (show 1 ≤ E.length ∧ E.length ≤ 12 by have := HEN.out; omega)
          have he2m : E.length ≤ 2097152 := by have := HEL.out; omega
          go_wp2_with (at_builtin; refine i64_append_all (w := w18) rfl (.tmp 314) (.tmp 315) rfl Adu E.length ddu E rfl rfl Hdu_18.out (Below.refl _ _) he2m ?_; intro va wa hRa hBa; obtain ⟨ga, cg, ea, hga, _, hcl⟩ := Kd.R_form hRa (by have := HEL.out; omega); subst ea; have HRA := Aside0.mk hRa; have HBA := Aside0.mk hBa; clear hRa hBa)
          obtain ⟨cs, hcs⟩ := hcl
          have HCS := Aside0.mk hcs
          have HGA := Aside0.mk hga
          clear hcs hga
          have HA0 := Aside0.mk (fun W h => a2At_c A1 c1 L1 0 (E.length : Int) (by have := HEL.out; omega) (by have := HEL.out; omega) (by omega) W h HO1.out)
          have HA1 := Aside0.mk (fun W h => a2At_c A1 c1 L1 1 3 (by omega) (by omega) (by omega) W h HO1.out)
          obtain ⟨k0, k1⟩ := a2V_bd (Cd := L1) (i := 0) (n := (E.length : Int)) (by have := HEL.out; omega)
          obtain ⟨d0, d1⟩ := a2V_bd (Cd := L1) (i := 1) (n := 3) (by omega)
          generalize a2V L1 0 (E.length : Int) = xk at HA0 k0 k1
          generalize a2V L1 1 3 = xd at HA1 d0 d1
          obtain ⟨kk, rfl⟩ := Int.eq_ofNat_of_zero_le k0
          refine (HA0.out _ (Kd.C_below HL1.out (HB_18.out.trans (HBA.out.mono HB_18.out.size)))).mono ?_; rintro _ wb ⟨rfl, hb⟩
          have HBB := Aside0.mk (bstep HBA.out hb)
          have HRB := Aside0.mk (Kd.R_below HRA.out hb)
          have HCB := Aside0.mk (blk_below HCS.out hb)
          clear hb HA0
          have hkl : kk < E.length := by omega
          have HKL := Aside0.mk hkl
          obtain ⟨ad9, e9, ea9, he9, hx9⟩ := at_int' (Kd.R_reads' HRB.out).2.2 kk hkl
          cases ea9
          have HE9 := Aside0.mk ((plE (lay_plain HY.out)).x e9 (mem_of he9.out))
          obtain ⟨b0, b1⟩ := HE9.out
          have t1 : IntKind.i64.wrap (xd - 1) = xd - 1 := by rw [IntKind.wrap_i64]; omega
          have t2 : IntKind.i64.wrap (e9 + (xd - 1)) = e9 + (xd - 1) := by rw [IntKind.wrap_i64]; omega
          have hadd : (⟨ga, 0, none⟩ : Addr).add kk = ⟨ga, kk, none⟩ := addr_add ga kk
          rw [hadd] at hx9
          have xO : ∀ p : Over wb, _ := Over.cell hx9
          have i0 : (0 : Int) ≤ (kk : Int) := by omega
          have i1 : (kk : Int) < (E.length : Int) := by omega
          clear k0 k1 hkl
          go_wp2_with fail
          refine region_over_tail 9 (by kernel_rfl) (by kernel_rfl) ?_
          simp only [List.take_succ_cons, List.take_zero, List.drop_succ_cons, List.drop_zero]
          repeat (go_big_quiet_step (first | (go_at_call 62; exact Calls.over_of (HA1.out _ (Kd.C_below HL1.out (HB_18.out.trans ((HBB.out.trans ((Over.h _).mono HBB.out.size)).mono HB_18.out.size)))))))
          refine wpQuiet_nil ?_
          intro w9 hw'
          have hq := over_out hw'
          clear hw' xO
          have hx10 := pw_cell_below hq hx9
          have hf10 := blk_frozen (blk_below HCB.out hq) kk
          obtain ⟨hR10, _⟩ := Kd.R_putg (Kd.R_below HRB.out hq) (kk : Int) (e9 + (xd - 1))
          rw [Int.toNat_natCast] at hR10
          have HR10 := Aside0.mk hR10
          have hb10 : Below w18.heap.size w18 (w9.setCell ⟨ga, kk, none⟩ (.int .i64 (e9 + (xd - 1)))) := Below.setCell (bstep HBB.out hq) (p := ⟨ga, kk, none⟩) HGA.out _
          clear hR10 hq hx9
          obtain ⟨y0, y1, y2⟩ := HX_18.out.below hb10
          go_wp2_with fail
          clear hx10 hf10
          generalize World.setCell w9 _ _ = w19 at hb10 HR10 y0 y1 y2 ⊢
          have HX_19 := Aside0.mk (HX_18.out.below hb10)
          have HC_19 := Aside0.mk (Kd.C_below HC_18.out hb10)
          have HL_19 := Aside0.mk (Kd.C_below HL_18.out hb10)
          have HB_19 := Aside0.mk (bstep HB_18.out hb10)
          have HT_19 := Aside0.mk (HT_18.out.below hb10)
          have Hdu_19 := Aside0.mk (Kd.C_below Hdu_18.out hb10)
          clear hb10
          obtain ⟨F, hF⟩ : ∃ F, E.set kk (e9 + (xd - 1)) = F := ⟨_, rfl⟩
          have HFL := Aside0.mk (show F.length = E.length by rw [← hF, List.length_set])
          rw [hF] at HR10
          clear hF t1 t2 b0 b1 d0 d1 i0 i1
          have HFC_19 := Aside0.mk (show (Kd.int .i64).C w19 (some ⟨ga, 0, none⟩) F.length F from (Kd.R_reads' HR10.out).2.2)
          have HC5 := Aside0.mk (fun A2 c2 W h1 h2 h3 => HCL.out A2 c2 F W h1 h2 h3)
          have HC6 := Aside0.mk (fun A2 c2 W h1 h2 h3 => HCLS.out A2 c2 F W h1 h2 h3)
          have HF5 := Aside0.mk (fun A2 c2 W h1 h2 h3 => HFB.out A2 c2 F W h1 h2 h3)
          have HF6 := Aside0.mk (fun A2 c2 W h1 h2 h3 => HFBS.out A2 c2 F W h1 h2 h3)
          simp only [(cl_ok HE0.out).1, HE0.out, HFL.out] at HC5 HC6
          simp only [(fb_ok HE0.out).1, (fb_ok HE0.out).2, HFL.out] at HF5 HF6
          simp only [HFL.out] at HFC_19
          have HLT := Aside0.mk (fun W h1 h2 => LayoutText_c Adu ddu E W h1 h2)
          have HRL := Aside0.mk (fun W h => ReadLayout_c (lyT E) (Nat.le_trans (lyT_len (plE (lay_plain HY.out))) (by omega)) W h)
          simp only [tL_ok (lay_plain HY.out)] at HLT
          simp only [(ly_ok (E := E) ⟨lay_plain HY.out, rfl⟩).1, (ly_ok (E := E) ⟨lay_plain HY.out, rfl⟩).2] at HRL
          by_cases hbad : badL k L F < 0
          · simp only [decide_eq_true hbad] at HC5 HC6
            simp only [if_pos hbad] at HF5 HF6
            clear hbad
            refine (HC5.out _ _ _ HC_19.out HL_19.out HFC_19.out).mono ?_; rintro _ w20 ⟨rfl, hb⟩
            have HX_20 := Aside0.mk (HX_19.out.below hb)
            have HC_20 := Aside0.mk (Kd.C_below HC_19.out hb)
            have HL_20 := Aside0.mk (Kd.C_below HL_19.out hb)
            have HB_20 := Aside0.mk (bstep HB_19.out hb)
            have HT_20 := Aside0.mk (HT_19.out.below hb)
            have Hdu_20 := Aside0.mk (Kd.C_below Hdu_19.out hb)
            have HFC_20 := Aside0.mk (Kd.C_below HFC_19.out hb)
            clear hb
            clear y0 y1 y2
            obtain ⟨y0, y1, y2⟩ := HX_20.out
            go_wp2_with fail
            refine (HC6.out _ _ _ HC_20.out HL_20.out HFC_20.out).mono ?_; rintro _ w21 ⟨rfl, hb⟩
            have HX_21 := Aside0.mk (HX_20.out.below hb)
            have HC_21 := Aside0.mk (Kd.C_below HC_20.out hb)
            have HL_21 := Aside0.mk (Kd.C_below HL_20.out hb)
            have HB_21 := Aside0.mk (bstep HB_20.out hb)
            have HT_21 := Aside0.mk (HT_20.out.below hb)
            have Hdu_21 := Aside0.mk (Kd.C_below Hdu_20.out hb)
            have HFC_21 := Aside0.mk (Kd.C_below HFC_20.out hb)
            clear hb
            clear y0 y1 y2
            obtain ⟨y0, y1, y2⟩ := HX_21.out
            go_wp2_with fail
            refine (HF5.out _ _ _ HC_21.out HL_21.out HFC_21.out).mono ?_; rintro _ w22 ⟨rfl, hb⟩
            have HX_22 := Aside0.mk (HX_21.out.below hb)
            have HC_22 := Aside0.mk (Kd.C_below HC_21.out hb)
            have HL_22 := Aside0.mk (Kd.C_below HL_21.out hb)
            have HB_22 := Aside0.mk (bstep HB_21.out hb)
            have HT_22 := Aside0.mk (HT_21.out.below hb)
            have Hdu_22 := Aside0.mk (Kd.C_below Hdu_21.out hb)
            have HFC_22 := Aside0.mk (Kd.C_below HFC_21.out hb)
            clear hb
            clear y0 y1 y2
            obtain ⟨y0, y1, y2⟩ := HX_22.out
            go_wp2_with fail
            refine (HF6.out _ _ _ HC_22.out HL_22.out HFC_22.out).mono ?_; rintro _ w23 ⟨rfl, hb⟩
            have HX_23 := Aside0.mk (HX_22.out.below hb)
            have HC_23 := Aside0.mk (Kd.C_below HC_22.out hb)
            have HL_23 := Aside0.mk (Kd.C_below HL_22.out hb)
            have HB_23 := Aside0.mk (bstep HB_22.out hb)
            have HT_23 := Aside0.mk (HT_22.out.below hb)
            have Hdu_23 := Aside0.mk (Kd.C_below Hdu_22.out hb)
            have HFC_23 := Aside0.mk (Kd.C_below HFC_22.out hb)
            clear hb
            clear y0 y1 y2
            go_wp2_with fail
            refine (HLT.out _ Hdu_23.out HT_23.out.tab).mono ?_; rintro _ w24 ⟨rfl, hb⟩
            have HX_24 := Aside0.mk (HX_23.out.below hb)
            have HC_24 := Aside0.mk (Kd.C_below HC_23.out hb)
            have HL_24 := Aside0.mk (Kd.C_below HL_23.out hb)
            have HB_24 := Aside0.mk (bstep HB_23.out hb)
            have HT_24 := Aside0.mk (HT_23.out.below hb)
            have Hdu_24 := Aside0.mk (Kd.C_below Hdu_23.out hb)
            have HFC_24 := Aside0.mk (Kd.C_below HFC_23.out hb)
            clear hb
            go_wp2_with fail
            refine (HRL.out _ HT_24.out).mono ?_; rintro _ w25 ⟨_, rfl, hb, vt, rfl, hv⟩
            have HX_25 := Aside0.mk (HX_24.out.below hb)
            have HC_25 := Aside0.mk (Kd.C_below HC_24.out hb)
            have HL_25 := Aside0.mk (Kd.C_below HL_24.out hb)
            have HB_25 := Aside0.mk (bstep HB_24.out hb)
            have HT_25 := Aside0.mk (HT_24.out.below hb)
            have Hdu_25 := Aside0.mk (Kd.C_below Hdu_24.out hb)
            have HFC_25 := Aside0.mk (Kd.C_below HFC_24.out hb)
            clear hb
            obtain ⟨At, dt, rfl, lt⟩ : ∃ A d, vt = .slice A E.length d ∧ E.length ≤ d := by obtain ⟨A, d, e1, e2, _⟩ := Kd.R_reads hv; exact ⟨A, d, e1, e2⟩
            have Ht_25 := Aside0.mk (show (Kd.int .i64).C w25 At E.length E from (Kd.R_reads' hv).2.2)
            clear hv
            go_wp2_with fail
            refine (HSM.out _ _ _ _ _ Ht_25.out Hdu_25.out).mono ?_; rintro _ w26 ⟨rfl, hb⟩
            have HX_26 := Aside0.mk (HX_25.out.below hb)
            have HC_26 := Aside0.mk (Kd.C_below HC_25.out hb)
            have HL_26 := Aside0.mk (Kd.C_below HL_25.out hb)
            have HB_26 := Aside0.mk (bstep HB_25.out hb)
            have HT_26 := Aside0.mk (HT_25.out.below hb)
            have Hdu_26 := Aside0.mk (Kd.C_below Hdu_25.out hb)
            have HFC_26 := Aside0.mk (Kd.C_below HFC_25.out hb)
            have Ht_26 := Aside0.mk (Kd.C_below Ht_25.out hb)
            clear hb
            go_wp2
            go_ret
            exact ⟨rfl, HB_26.out⟩
          · simp only [decide_eq_false hbad] at HC5 HC6
            simp only [if_neg hbad] at HF5 HF6
            generalize badL k L F = bl at HF5 HF6 hbad
            clear hbad
            refine (HC5.out _ _ _ HC_19.out HL_19.out HFC_19.out).mono ?_; rintro _ w20 ⟨rfl, hb⟩
            have HX_20 := Aside0.mk (HX_19.out.below hb)
            have HC_20 := Aside0.mk (Kd.C_below HC_19.out hb)
            have HL_20 := Aside0.mk (Kd.C_below HL_19.out hb)
            have HB_20 := Aside0.mk (bstep HB_19.out hb)
            have HT_20 := Aside0.mk (HT_19.out.below hb)
            have Hdu_20 := Aside0.mk (Kd.C_below Hdu_19.out hb)
            have HFC_20 := Aside0.mk (Kd.C_below HFC_19.out hb)
            clear hb
            clear y0 y1 y2
            obtain ⟨y0, y1, y2⟩ := HX_20.out
            go_wp2_with fail
            refine (HC6.out _ _ _ HC_20.out HL_20.out HFC_20.out).mono ?_; rintro _ w21 ⟨rfl, hb⟩
            have HX_21 := Aside0.mk (HX_20.out.below hb)
            have HC_21 := Aside0.mk (Kd.C_below HC_20.out hb)
            have HL_21 := Aside0.mk (Kd.C_below HL_20.out hb)
            have HB_21 := Aside0.mk (bstep HB_20.out hb)
            have HT_21 := Aside0.mk (HT_20.out.below hb)
            have Hdu_21 := Aside0.mk (Kd.C_below Hdu_20.out hb)
            have HFC_21 := Aside0.mk (Kd.C_below HFC_20.out hb)
            clear hb
            clear y0 y1 y2
            obtain ⟨y0, y1, y2⟩ := HX_21.out
            go_wp2_with fail
            refine (HF5.out _ _ _ HC_21.out HL_21.out HFC_21.out).mono ?_; rintro _ w22 ⟨rfl, hb⟩
            have HX_22 := Aside0.mk (HX_21.out.below hb)
            have HC_22 := Aside0.mk (Kd.C_below HC_21.out hb)
            have HL_22 := Aside0.mk (Kd.C_below HL_21.out hb)
            have HB_22 := Aside0.mk (bstep HB_21.out hb)
            have HT_22 := Aside0.mk (HT_21.out.below hb)
            have Hdu_22 := Aside0.mk (Kd.C_below Hdu_21.out hb)
            have HFC_22 := Aside0.mk (Kd.C_below HFC_21.out hb)
            clear hb
            clear y0 y1 y2
            obtain ⟨y0, y1, y2⟩ := HX_22.out
            go_wp2_with fail
            refine (HF6.out _ _ _ HC_22.out HL_22.out HFC_22.out).mono ?_; rintro _ w23 ⟨rfl, hb⟩
            have HX_23 := Aside0.mk (HX_22.out.below hb)
            have HC_23 := Aside0.mk (Kd.C_below HC_22.out hb)
            have HL_23 := Aside0.mk (Kd.C_below HL_22.out hb)
            have HB_23 := Aside0.mk (bstep HB_22.out hb)
            have HT_23 := Aside0.mk (HT_22.out.below hb)
            have Hdu_23 := Aside0.mk (Kd.C_below Hdu_22.out hb)
            have HFC_23 := Aside0.mk (Kd.C_below HFC_22.out hb)
            clear hb
            clear y0 y1 y2
            go_wp2_with fail
            refine (HLT.out _ Hdu_23.out HT_23.out.tab).mono ?_; rintro _ w24 ⟨rfl, hb⟩
            have HX_24 := Aside0.mk (HX_23.out.below hb)
            have HC_24 := Aside0.mk (Kd.C_below HC_23.out hb)
            have HL_24 := Aside0.mk (Kd.C_below HL_23.out hb)
            have HB_24 := Aside0.mk (bstep HB_23.out hb)
            have HT_24 := Aside0.mk (HT_23.out.below hb)
            have Hdu_24 := Aside0.mk (Kd.C_below Hdu_23.out hb)
            have HFC_24 := Aside0.mk (Kd.C_below HFC_23.out hb)
            clear hb
            go_wp2_with fail
            refine (HRL.out _ HT_24.out).mono ?_; rintro _ w25 ⟨_, rfl, hb, vt, rfl, hv⟩
            have HX_25 := Aside0.mk (HX_24.out.below hb)
            have HC_25 := Aside0.mk (Kd.C_below HC_24.out hb)
            have HL_25 := Aside0.mk (Kd.C_below HL_24.out hb)
            have HB_25 := Aside0.mk (bstep HB_24.out hb)
            have HT_25 := Aside0.mk (HT_24.out.below hb)
            have Hdu_25 := Aside0.mk (Kd.C_below Hdu_24.out hb)
            have HFC_25 := Aside0.mk (Kd.C_below HFC_24.out hb)
            clear hb
            obtain ⟨At, dt, rfl, lt⟩ : ∃ A d, vt = .slice A E.length d ∧ E.length ≤ d := by obtain ⟨A, d, e1, e2, _⟩ := Kd.R_reads hv; exact ⟨A, d, e1, e2⟩
            have Ht_25 := Aside0.mk (show (Kd.int .i64).C w25 At E.length E from (Kd.R_reads' hv).2.2)
            clear hv
            go_wp2_with fail
            refine (HSM.out _ _ _ _ _ Ht_25.out Hdu_25.out).mono ?_; rintro _ w26 ⟨rfl, hb⟩
            have HX_26 := Aside0.mk (HX_25.out.below hb)
            have HC_26 := Aside0.mk (Kd.C_below HC_25.out hb)
            have HL_26 := Aside0.mk (Kd.C_below HL_25.out hb)
            have HB_26 := Aside0.mk (bstep HB_25.out hb)
            have HT_26 := Aside0.mk (HT_25.out.below hb)
            have Hdu_26 := Aside0.mk (Kd.C_below Hdu_25.out hb)
            have HFC_26 := Aside0.mk (Kd.C_below HFC_25.out hb)
            have Ht_26 := Aside0.mk (Kd.C_below Ht_25.out hb)
            clear hb
            go_wp2
            go_ret
            exact ⟨rfl, HB_26.out⟩
end Go.Proofs.YtgibcacciedobaaGreatDoor
end
section
/- The start that the program's own initialisers leave: the listed variables lie as the rows say. -/
namespace Go.Proofs.YtgibcacciedobaaGreatDoor
open Go.RowKit Go.Proofs.YtgibcacciedobaaGreatDoorW.PrintWords Go.Proofs.YtgibcacciedobaaGreatDoorW.PrintMore
set_option linter.unusedVariables false
set_option linter.unusedSimpArgs false
set_option maxRecDepth 100000

noncomputable def startWorld (os : Os) : World := World.doorLaid Tryz.prog 72 os
theorem powD : Rows.laid_internal_strconv_uint64pow10 (H := Unit) = Lib.tabData .u64 Lib.pow10Tab := by kernel_rfl
theorem tPow : (Tryz.prog.globals[3]?).map (·.type) = some 231 := by kernel_rfl
theorem cPow : Tryz.prog.cellsOf 231 = 20 := by kernel_rfl
theorem cU64 : Tryz.prog.cellsOf 151 = 1 := by kernel_rfl
abbrev laid3 : List (String × DataW Unit) := [("math/bits.deBruijn32tab", Rows.laid_math_bits_deBruijn32tab), ("math/bits.deBruijn64tab", Rows.laid_math_bits_deBruijn64tab), ("internal/strconv.uint64pow10", Rows.laid_internal_strconv_uint64pow10)]
set_option maxRecDepth 100000 in
theorem start_met (os : Os) (args : Array Value) : laidMetH Tryz.prog laid3 ((startWorld os).forCall (fun _ _ => 0) ⟨#[], args, []⟩).memory := by
  rw [MakeChecks.laidMetH_plain _ _ _ (by kernel_rfl)]
  exact laidMet_of_run' 8 (by kernel_rfl) (by kernel_rfl)
theorem start_tab {W : World} (h : laidMetH Tryz.prog laid3 W) : Tab W := by
  rw [MakeChecks.laidMetH_plain _ _ _ (by kernel_rfl)] at h
  have h2 := h.tail.tail
  rw [powD] at h2
  exact Lib.tabIs_of_head gPow tPow Tryz.underlying231 Tryz.underlying151 cU64 cPow h2
end Go.Proofs.YtgibcacciedobaaGreatDoor
end
section
/- The start of a law that reads texts: the seven listed variables. -/
namespace Go.Proofs.YtgibcacciedobaaGreatDoor
open Go.RowKit Go.Proofs.YtgibcacciedobaaGreatDoorW.PrintWords Go.Proofs.YtgibcacciedobaaGreatDoorW.PrintMore
set_option linter.unusedVariables false
set_option linter.unusedSimpArgs false
set_option maxRecDepth 100000

def firstRow (o : Obj) : Obj := match o with | .cells _ a b => .cells (Go.Pinned.utf8FirstZ.map (fun n : Nat => Value.int .u8 (n : Int))).toArray a b | o => o
noncomputable def startWorld7 (os : Os) : World := { World.doorLaid Tryz.prog 72 os with heap := (World.doorLaid Tryz.prog 72 os).heap.modify 4 firstRow }
abbrev laid7 : List (String × DataW Unit) := [("math/bits.deBruijn32tab", Rows.laid_math_bits_deBruijn32tab), ("math/bits.deBruijn64tab", Rows.laid_math_bits_deBruijn64tab), ("internal/strconv.uint64pow10", Rows.laid_internal_strconv_uint64pow10), ("unicode/utf8.acceptRanges", Rows.laid_unicode_utf8_acceptRanges), ("strconv.ErrRange", Rows.laid_strconv_ErrRange), ("strconv.ErrSyntax", Rows.laid_strconv_ErrSyntax), ("unicode/utf8.first", Rows.laid_unicode_utf8_first)]
set_option maxRecDepth 100000 in
theorem start_met7 (os : Os) (args : Array Value) : laidMetH Tryz.prog laid7 ((startWorld7 os).forCall (fun _ _ => 0) ⟨#[], args, []⟩).memory := by
  rw [MakeChecks.laidMetH_plain _ _ _ (by kernel_rfl)]
  exact laidMet_of_run' 8 (by kernel_rfl) (by kernel_rfl)
theorem gES : Tryz.prog.globalNamed "strconv.ErrSyntax" = some 1 := by kernel_rfl
theorem tES : (Tryz.prog.globals[1]?).map (·.type) = some 175 := by kernel_rfl
theorem gER : Tryz.prog.globalNamed "strconv.ErrRange" = some 2 := by kernel_rfl
theorem tER : (Tryz.prog.globals[2]?).map (·.type) = some 175 := by kernel_rfl
theorem cErr : Tryz.prog.cellsOf 244 = 1 := by kernel_rfl
theorem cStr : Tryz.prog.cellsOf 9 = 1 := by kernel_rfl
theorem starE : "*" ++ "errors.errorString" = "*errors.errorString" := by decide
theorem rowErr (u : TypeId) (h : Tryz.prog.typeName? 3 u = some "*errors.errorString") : u = 242 :=
  typeName_ptr_named (nm := "errors.errorString") (by rw [starE]; kernel_rfl) (by kernel_rfl) (by decide) u (by rw [starE]; exact h)
theorem start_txt {W : World} (h : laidMetH Tryz.prog laid7 W) (hsh : W.ShapedOpen Tryz.prog) : Txt W := by
  rw [MakeChecks.laidMetH_plain _ _ _ (by kernel_rfl)] at h
  have h2 := h.tail.tail
  rw [powD] at h2
  have ht := Lib.tabIs_of_head gPow tPow Tryz.underlying231 Tryz.underlying151 cU64 cPow h2
  have h4 := h.tail.tail.tail.tail
  obtain ⟨a0, s0, hv0, -, -, -⟩ := laid_sentinel h4 gER tER Tryz.underlying175 rowErr Tryz.underlying242 Tryz.underlying244 rfl rfl Tryz.underlying9 cErr cStr
  obtain ⟨a1, s1, hv1, -, -, -⟩ := laid_sentinel h4.tail gES tES Tryz.underlying175 rowErr Tryz.underlying242 Tryz.underlying244 rfl rfl Tryz.underlying9 cErr cStr
  exact ⟨ht, cell_of_shapedOpen_int (P := Tryz.prog) (g := 0) (t := 3) (zero := #[.int .i64 0]) hsh (of_decide_eq_true (by kernel_rfl)) (by kernel_rfl) rfl (by kernel_rfl) (by kernel_rfl) Tryz.underlying3,
    ⟨_, by have h0 := World.var?_cell gES hv1 0; simpa using h0, Or.inr ⟨_, _, rfl⟩⟩, ⟨_, by have h0 := World.var?_cell gER hv0 0; simpa using h0, Or.inr ⟨_, _, rfl⟩⟩⟩
end Go.Proofs.YtgibcacciedobaaGreatDoor
end
section
/- The laws' arguments, opened: a book, a list of books, lists of numbers. -/
namespace Go.Proofs.YtgibcacciedobaaGreatDoor
open Go.RowKit Go.Proofs.YtgibcacciedobaaGreatDoorW.PrintWords Go.Proofs.YtgibcacciedobaaGreatDoorW.PrintMore
open Go.ChangeShapes Go.WideShapes Go.Deep
set_option linter.unusedVariables false
set_option linter.unusedSimpArgs false
set_option maxRecDepth 100000
theorem cells_i16 : Tryz.prog.cellsOf 27 = 1 := by kernel_rfl
theorem cells_u8 : Tryz.prog.cellsOf 5 = 1 := by kernel_rfl
theorem cells_mark : Tryz.prog.cellsOf 28 = 3 := by kernel_rfl
theorem laid : laidOutB Tryz.prog = true := by kernel_rfl
section
variable {H : Type} {enc : TypeId × Value → H} {w : World} {base : Nat} {spare : Nat → Bool} {held : Bool} {fuel : Nat} {cs : List Value} {x : DataW H × List MemPlace}
theorem trod_i16 (h : DataW.trod enc Tryz.prog w base spare held fuel 27 cs = some x) : ∃ n, cs = [.int .i16 n] ∧ I16 n := by
  obtain ⟨n, h1, h2, h3⟩ := DataW.trod_int Tryz.underlying27 h
  exact ⟨n, h1, bounds_i16 h3⟩
theorem trod_u8 (h : DataW.trod enc Tryz.prog w base spare held fuel 5 cs = some x) : ∃ n, cs = [.int .u8 n] ∧ U8 n := by
  obtain ⟨n, h1, h2, h3⟩ := DataW.trod_int Tryz.underlying5 h
  exact ⟨n, h1, bounds_u8 h3⟩
theorem some_at {α : Type} {xs : List α} {n i : Nat} (h : xs.length = n) (hi : i < n) : ∃ y, xs[i]? = some y := ⟨xs[i]'(by omega), List.getElem?_eq_getElem (by omega)⟩
theorem collect {α : Type} (n : Nat) (Q : Nat → α → Prop) (h : ∀ i, i < n → ∃ b, Q i b) : ∃ L : List α, L.length = n ∧ ∀ i b, L[i]? = some b → Q i b := by
  induction n with
  | zero => exact ⟨[], rfl, fun i b h => by simp at h⟩
  | succ n ih =>
    obtain ⟨L, hl, hL⟩ := ih (fun i hi => h i (by omega))
    obtain ⟨b, hb⟩ := h n (by omega)
    refine ⟨L ++ [b], by simp [hl], fun i b' h2 => ?_⟩
    rcases Nat.lt_or_ge i L.length with hi | hi
    · rw [List.getElem?_append_left hi] at h2; exact hL i b' h2
    · have hi' : i = n := by have := (List.getElem?_eq_some_iff.1 h2).1; simp at this; omega
      subst hi'
      rw [List.getElem?_append_right hi, hl, Nat.sub_self] at h2
      have : b = b' := by simpa using h2
      subst this
      exact hb
end
end Go.Proofs.YtgibcacciedobaaGreatDoor
end
section
/- The laws' arguments, opened: lists of bytes. -/
namespace Go.Proofs.YtgibcacciedobaaGreatDoor
open Go.RowKit Go.Proofs.YtgibcacciedobaaGreatDoorW.PrintWords Go.Proofs.YtgibcacciedobaaGreatDoorW.PrintMore
set_option linter.unusedVariables false
set_option linter.unusedSimpArgs false
set_option maxRecDepth 100000

open Go.ChangeShapes Go.WideShapes Go.Deep
section
variable {H : Type} {enc : TypeId × Value → H} {w : World} {base : Nat} {spare : Nat → Bool} {held : Bool} {fuel : Nat} {cs : List Value} {x : DataW H × List MemPlace}
theorem cells_uint8' : Tryz.prog.cellsOf 5 = 1 := by kernel_rfl
/-- A list of whole numbers (u8). -/
theorem open_u8s {r : Reach} {b0 : Nat} {v : Value} {d : DataW H} {p : List MemPlace} (hv : Value.okWide Tryz.prog w r b0 22 v) (h : DataW.Trod enc Tryz.prog w 0 (fun _ => true) held 22 v d p) :
    ∃ (A : Option Addr) (c : Nat) (L : List Int), v = .slice A L.length c ∧ L.length ≤ c ∧ (Kd.int .u8).C w A L.length L ∧ (∀ x, x ∈ L → (Lit.int .u8 x).wf = true) := by
  obtain ⟨a0, len, cap, rfl⟩ := okWide_slice Tryz.underlying22 hv
  obtain ⟨fuel, hf⟩ := h
  rcases open_slice Tryz.underlying22 hf with ⟨hcs, hx⟩ | ⟨a, len', cap', m, n, D, Pl, hcs, hb, hl, hm, hmm, hx, hi⟩
  · simp only [Value.cells, List.cons.injEq, and_true] at hcs
    have hcs' : Value.slice a0 len cap = .slice none 0 0 := by simpa using hcs
    injection hcs' with e1 e2 e3
    subst e1 e2 e3
    exact ⟨none, 0, [], rfl, Nat.le_refl _, Kd.C_nil (Kd.int .u8) w, fun b hb => by cases hb⟩
  · have hcs' : Value.slice a0 len cap = .slice (some a) len' cap' := by simpa [Value.cells] using hcs
    injection hcs' with e1 e2 e3
    subst e1 e2 e3
    rw [if_pos rfl] at hmm
    subst hmm
    rw [cells_uint8'] at hi
    have hE : ∀ i, i < len → ∃ n : Int, (Lit.int .u8 n).wf = true ∧ w.cell? (a.add i) = some (.int .u8 n) := by
      intro i hil
      obtain ⟨cs', hc, ht⟩ := hi i (by omega)
      obtain ⟨n, rfl, _, hw⟩ := DataW.trod_int Tryz.underlying5 ht
      obtain ⟨_, hcl, hat⟩ := World.cells?_some hc
      refine ⟨n, hw, ?_⟩
      have := hat 0 (by omega)
      rw [Go.Deep.add_add] at this
      simpa using this
    obtain ⟨L, hLl, hL⟩ := collect _ _ hE
    subst hLl
    refine ⟨some a, _, L, rfl, hl, ⟨rfl, by unfold maxLen at hm; omega, fun _ => ⟨a, rfl, fun j p hj => ⟨[.int .u8 p], rfl, rfl, fun i u hu => ?_⟩⟩⟩, fun b hb => ?_⟩
    · match i, hu with
      | 0, hu => cases hu; have := (hL j p hj).2; simpa [Kd.int, Kd.scalar] using this
    · obtain ⟨i, hi⟩ := List.mem_iff_getElem?.1 hb
      exact (hL i b hi).1
theorem cells_int64' : Tryz.prog.cellsOf 2 = 1 := by kernel_rfl
theorem open_u8s' {r : Reach} {b0 : Nat} {v : Value} {d : DataW H} {p : List MemPlace} (hv : Value.okWide Tryz.prog w r b0 22 v) (h : DataW.Trod enc Tryz.prog w 0 (fun _ => true) held 22 v d p) :
    ∃ (A : Option Addr) (c : Nat) (L : List Int), v = .slice A L.length c ∧ L.length ≤ c ∧ (Kd.int .u8).C w A L.length L ∧ (∀ x, x ∈ L → 0 ≤ x ∧ x ≤ 255) := by
  obtain ⟨A, c, L, h1, h2, h3, h4⟩ := open_u8s hv h
  exact ⟨A, c, L, h1, h2, h3, fun x hx => bounds_u8 (h4 x hx)⟩
end
end Go.Proofs.YtgibcacciedobaaGreatDoor
end
