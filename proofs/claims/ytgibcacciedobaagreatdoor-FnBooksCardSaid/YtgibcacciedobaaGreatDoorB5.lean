/- Texts of this proof that belong together: TxV, TxU, TxQ, TxB, TxW, TxR, Eq, TxJ, TxO, TxX, TxN, TxLs, TxRA, TxK, TxM, BkX. No condition. -/
import Derived.Test.YtgibcacciedobaaGreatDoorB4
import Derived.StillTailTactics
import Derived.Still
import Derived.Deep.QuietTactic
import Derived.BigQuiet
import Derived.Lib.AtoiErrMem
import Derived.Lib.AtoiTie
import Derived.Lib.ParseIntBTie
import Derived.Lib.SplitLaws
import Derived.Lib.Join
import Derived.Deep.RegionHeld3
import Derived.Lib.ConvBytes
import Derived.RangeFuncNested
import Derived.RangeFuncBound
import Derived.RangeFuncCalls
import Derived.RangeFuncLeaves
import Derived.Shelf.Abstract
import Derived.Shelf.RegionOpen
import Derived.WalkKit
import Derived.OwnWalkIn
import Derived.TacticsInMore
import Derived.LoopNIn
import Derived.LoopIn
import Derived.OrdersIn
import Derived.StillTail
import Derived.Deep.Quiet
import Derived.Deep.RegionWith
import Derived.RangeFuncBox
import Derived.Maps.AppendAt
import Derived.Shelf.Strings.BuilderK
import Derived.Shelf.Strings.OnBuilder
section
/- Numbers read from texts: the program's. -/
namespace Go.Proofs.YtgibcacciedobaaGreatDoor
open Go.RowKit Go.Proofs.YtgibcacciedobaaGreatDoorW.PrintWords Go.Proofs.YtgibcacciedobaaGreatDoorW.PrintMore
set_option linter.unusedVariables false
set_option linter.unusedSimpArgs false
set_option maxRecDepth 100000

/-- What a reading wants of the world: the library's variables. -/
structure Txt (w : World) : Prop where
  tab : Tab w
  mx : ∃ m, w.cell? ⟨0, 0, none⟩ = some (.int .i64 m)
  es : ∃ ev, w.cell? ⟨1, 0, none⟩ = some ev ∧ (ev = .nilIface ∨ ∃ te pe, ev = .iface te pe)
  er : ∃ ev, w.cell? ⟨2, 0, none⟩ = some ev ∧ (ev = .nilIface ∨ ∃ te pe, ev = .iface te pe)
theorem Txt.below {w w1 : World} (h : Txt w) (hb : Below w.heap.size w w1) : Txt w1 := by
  obtain ⟨h1, ⟨m, h2⟩, ⟨ev, h3, h4⟩, ev2, h5, h6⟩ := h
  exact ⟨h1.below hb, ⟨m, pw_cell_below hb h2⟩, ⟨ev, pw_cell_below hb h3, h4⟩, ev2, pw_cell_below hb h5, h6⟩
theorem decZ_c (n : Int) (h0 : -9223372036854775808 ≤ n) (h1 : n ≤ 9223372036854775807) (w : World) (ht : Tab w) : Calls Tryz.prog 139 #[.int .i64 n] w (Ret w (.string (bS (Go.Lib.itoa n)))) := by
  have HF := Aside0.mk (show Calls Tryz.prog 175 #[.int .i64 n, .int .i64 10] w (Ret w (.string (bS (Go.Lib.itoa n)))) from (Tryz.strconv_FormatInt_10 n h0 h1 w ht).mono fun e w' ⟨he, k, os, hw⟩ => ⟨he, by rw [hw]; exact bgrow w k os⟩)
  clear ht
  go_enter Tryz.func139, Tryz.ntmps139
  go_wp2_with (go_at_call 175; refine HF.out.mono ?_; rintro _ w1 ⟨rfl, hb1⟩)
  go_ret
  exact ⟨rfl, hb1⟩
theorem bS_list (l : Bs) : (bS l).toList = l := by rw [Go.Lib.toList_data, bS_toList]
theorem ret_rd {a b : Int} {c d : Bool} (h : a = b) (k : c = d) : Ending.returned (.tuple #[.int .i64 a, .bool c]) = .returned (.tuple #[.int .i64 b, .bool d]) := by rw [h, k]
set_option maxHeartbeats 2000000 in
theorem readDec_c (l : Bs) (hl : l.length ≤ 1048576) (w : World) (ht : Txt w) : Calls Tryz.prog 116 #[.string (bS l)] w (Ret w (.tuple #[.int .i64 (rdN l), .bool (rdOk l)])) := by
  have hsz : (bS l).size ≤ 1048576 := by rw [bS_size]; exact hl
  have HT := Aside0.mk ht
  obtain ⟨_, _, ⟨ev, he1, he2⟩, ev2, hr1, hr2⟩ := ht
  cases h : Go.Lib.parseIntB 64 l
  · rename_i v
    have hv : -9223372036854775808 ≤ v ∧ v ≤ 9223372036854775807 := by
      rw [Go.Lib.parseIntB_64] at h
      exact Go.Lib.atoiAll_bounds h
    have HR := Aside0.mk (show rdN l = v by unfold rdN; rw [h])
    have HK := Aside0.mk (show rdOk l = (Go.Lib.itoa v == l) by unfold rdOk; rw [h])
    have HP := Aside0.mk (show Calls Tryz.prog 165 #[.string (bS l), .int .i64 10, .int .i64 64] w (Ret w (.tuple #[.int .i64 v, .nilIface])) from (Tryz.strconv_ParseInt_10_at64_ok (bS l) (by omega) v (by rw [bS_toList]; exact h) w).mono fun e w' ⟨he, hw⟩ => ⟨he, by
      rcases hw with rfl | ⟨t, rfl⟩
      · exact Below.refl _ _
      · exact Go.Lib.bytesWorld_below _ _ _⟩)
    have HD := Aside0.mk (fun W h => decZ_c v hv.1 hv.2 W h)
    clear h hv he1 he2 hr1 hr2
    have HQ := Aside0.mk (show ((bS (Go.Lib.itoa v)).toList == (bS l).toList) = rdOk l by rw [HK.out, bS_list, bS_list])
    go_enter Tryz.func116, Tryz.ntmps116
    go_wp2_with fail
    refine HP.out.mono ?_; rintro _ w1 ⟨rfl, hb1⟩
    have HB1 := Aside0.mk hb1
    clear hb1
    go_wp2_with fail
    refine (HD.out _ (HT.out.tab.below HB1.out)).mono ?_; rintro _ w2 ⟨rfl, hb2⟩
    have HB2 := Aside0.mk (bstep HB1.out hb2)
    clear hb2
    go_wp2
    go_ret2
    exact ⟨ret_rd HR.out.symm HQ.out, HB2.out⟩
  · have HR := Aside0.mk (show rdN l = 0 by unfold rdN; rw [h])
    have HK := Aside0.mk (show rdOk l = false by unfold rdOk; rw [h])
    have HP := Aside0.mk (Tryz.strconv_ParseInt_10_at64_syntax (bS l) (by omega) (by rw [bS_toList]; exact h) ev w he1 he2)
    clear h he1 he2 hr1 hr2
    go_enter Tryz.func116, Tryz.ntmps116
    go_wp2_with fail
    refine HP.out.mono ?_; rintro _ w1 ⟨N, rfl, _, _, hb1⟩
    have HB1 := Aside0.mk hb1
    clear hb1
    go_wp2
    go_ret2
    exact ⟨ret_rd HR.out.symm HK.out.symm, HB1.out⟩
  · have HR := Aside0.mk (show rdN l = Go.Lib.intSat 64 l by unfold rdN; rw [h])
    have HK := Aside0.mk (show rdOk l = false by unfold rdOk; rw [h])
    have HP := Aside0.mk (Tryz.strconv_ParseInt_10_at64_range (bS l) (by omega) (by rw [bS_toList]; exact h) ev2 w hr1 hr2)
    rw [bS_toList] at HP
    clear h he1 he2 hr1 hr2
    go_enter Tryz.func116, Tryz.ntmps116
    go_wp2_with fail
    refine HP.out.mono ?_; rintro _ w1 ⟨N, rfl, _, _, hb1⟩
    have HB1 := Aside0.mk hb1
    clear hb1
    go_wp2
    go_ret2
    exact ⟨ret_rd HR.out.symm HK.out.symm, HB1.out⟩
theorem i16_low {n : Int} (h : 0 ≤ n ∧ n ≤ 32767) : IntKind.i16.wrap n = n := by
  simp only [IntKind.wrap, IntKind.bits, IntKind.signed, Bool.true_and, decide_eq_true_eq, ge_iff_le]
  split <;> omega
set_option maxHeartbeats 2000000 in
theorem short_c (l : Bs) (hl : l.length ≤ 1048576) (w : World) (ht : Txt w) : Calls Tryz.prog 117 #[.string (bS l)] w (Ret w (.int .i16 (shN l))) := by
  have HD := Aside0.mk (readDec_c l hl w ht)
  have HW := Aside0.mk (fun W => withinT64_c (rdN l) 0 32767 W)
  clear ht
  cases hk : rdOk l
  · have HS := Aside0.mk (show shN l = -1 by unfold shN; rw [hk]; rfl)
    rw [hk] at HD
    clear hk
    generalize rdN l = v at HD HW
    go_enter Tryz.func117, Tryz.ntmps117
    go_wp2_with (go_at_call 116; refine HD.out.mono ?_; rintro _ w1 ⟨rfl, hb1⟩)
    go_ret
    exact ⟨ret_int HS.out.symm, hb1⟩
  · cases hr : inR (rdN l) 0 32767
    · have HS := Aside0.mk (show shN l = -1 by unfold shN; rw [hk, hr]; rfl)
      rw [hk] at HD
      rw [hr] at HW
      clear hk hr
      generalize rdN l = v at HD HW
      go_enter Tryz.func117, Tryz.ntmps117
      go_wp2_with fail
      refine HD.out.mono ?_; rintro _ w1 ⟨rfl, hb1⟩
      have HB1 := Aside0.mk hb1
      clear hb1
      go_wp2_with fail
      refine (HW.out _).mono ?_; rintro _ w2 ⟨rfl, rfl⟩
      go_wp2
      go_ret
      exact ⟨ret_int HS.out.symm, HB1.out⟩
    · have HS := Aside0.mk (show shN l = rdN l by unfold shN; rw [hk, hr]; rfl)
      have hv := inR_iff.1 hr
      have hwv : IntKind.i16.wrap (rdN l) = rdN l := i16_low hv
      rw [hk] at HD
      rw [hr] at HW
      clear hk hr
      generalize rdN l = v at HD HW HS hv hwv
      go_enter Tryz.func117, Tryz.ntmps117
      go_wp2_with fail
      refine HD.out.mono ?_; rintro _ w1 ⟨rfl, hb1⟩
      have HB1 := Aside0.mk hb1
      clear hb1
      go_wp2_with fail
      refine (HW.out _).mono ?_; rintro _ w2 ⟨rfl, rfl⟩
      go_wp2
      go_ret
      exact ⟨ret_int HS.out.symm, HB1.out⟩
end Go.Proofs.YtgibcacciedobaaGreatDoor
end
section
/- Numbers read from texts, texts parted: the reference's. -/
namespace Go.Proofs.YtgibcacciedobaaGreatDoor
open Go.RowKit Go.Proofs.YtgibcacciedobaaGreatDoorW.PrintWords Go.Proofs.YtgibcacciedobaaGreatDoorW.PrintMore
set_option linter.unusedVariables false
set_option linter.unusedSimpArgs false
set_option maxRecDepth 100000

open Go.Lib (decFrom digitVal)
def nmV (l : Bs) : Int := ((numL l).getD 0 : Nat)
def nmK (l : Bs) : Bool := (numL l).isSome
theorem bS_at {l : Bs} {k : Nat} {x : UInt8} (h : l[k]? = some x) : ∀ hk : k < (bS l).size, (((bS l)[k]'hk).toNat : Int) = (x.toNat : Int) := by
  intro hk
  have hl : k < l.length := (List.getElem?_eq_some_iff.1 h).1
  have e := (List.getElem?_eq_some_iff.1 h).2
  have : (bS l)[k]'hk = l[k]'hl := by
    simp [bS, ByteArray.getElem_eq_getElem_data]
  rw [this, e]
theorem num_none {l : Bs} (h : numL l = none) : nmV l = 0 ∧ nmK l = false := by unfold nmV nmK; rw [h]; exact ⟨rfl, rfl⟩
theorem num_long {l : Bs} (h : 9 < l.length) : numL l = none := by unfold numL; rw [if_pos (.inr (.inl h))]
theorem num_zero {r : Bs} (h : r ≠ []) : numL (48 :: r) = none := by
  unfold numL
  rw [if_pos]
  have := List.length_pos_iff.2 h
  exact .inr (.inr ⟨rfl, by simp only [List.length_cons]; omega⟩)
theorem num_go {l : Bs} (h0 : l ≠ []) (h1 : ¬ 9 < l.length) (h2 : ¬ (l.head? = some 48 ∧ 1 < l.length)) : numL l = decFrom 0 l := by
  unfold numL
  rw [if_neg]
  rintro (h | h | h)
  · exact h0 h
  · exact h1 h
  · exact h2 h
theorem decFrom_bad {l : Bs} {k acc : Nat} {x : UInt8} (h : l[k]? = some x) (hx : x.toNat < 48 ∨ 57 < x.toNat) : decFrom acc l = none := by
  cases hd : decFrom acc l with
  | none => rfl
  | some n =>
    exfalso
    revert acc n k
    induction l with
    | nil => intro k acc h n hd; simp at h
    | cons y r ih =>
      intro k acc h n hd
      rw [decFrom] at hd
      cases hy : digitVal y with
      | none => rw [hy] at hd; cases hd
      | some d =>
        rw [hy] at hd
        cases k with
        | zero =>
          simp only [List.getElem?_cons_zero, Option.some.injEq] at h
          subst h
          have := Go.Lib.digitVal_eq hy
          omega
        | succ k => exact ih (by simpa using h) n hd
theorem decFrom_lt9 {l : Bs} {n : Nat} (h : decFrom 0 l = some n) (hl : l.length ≤ 9) : n < 1000000000 := by
  have h1 := Go.Lib.decFrom_lt l 0 n h
  have h2 : 10 ^ l.length ≤ 10 ^ 9 := Nat.pow_le_pow_right (by decide) hl
  omega
theorem nm_some {l : Bs} {n : Nat} (h : numL l = some n) : nmV l = n ∧ nmK l = true := by unfold nmV nmK; rw [h]; exact ⟨rfl, rfl⟩
end Go.Proofs.YtgibcacciedobaaGreatDoor
end
section
/- Texts parted at a sign: the library's Split, and the reference's own. -/
namespace Go.Proofs.YtgibcacciedobaaGreatDoor
open Go.RowKit Go.Proofs.YtgibcacciedobaaGreatDoorW.PrintWords Go.Proofs.YtgibcacciedobaaGreatDoorW.PrintMore
set_option linter.unusedVariables false
set_option linter.unusedSimpArgs false
set_option maxRecDepth 100000

theorem ext_bS (l : Bs) (a b : Nat) : (bS l).extract a b = bS ((l.take b).drop a) := by
  rw [← bS_of ((bS l).extract a b), Go.Lib.extract_data, bS_toList, List.drop_take]
theorem splitB_bS (c : UInt8) (l : Bs) : Go.Lib.splitB (bS [c]) 0 (Go.Lib.countB (bS l) (bS [c])) (bS l) = (splitL c l).map bS := by
  have h := splitB_one c (bS l)
  rw [bS_toList] at h
  rw [← h, List.map_map]
  exact (map_back (fun x _ => bS_of x)).symm
theorem countB_bS (c : UInt8) (l : Bs) : Go.Lib.countB (bS l) (bS [c]) + 1 = (splitL c l).length := by
  have h := Go.Lib.splitB_all (bS [c]) (by rw [bS_size]; exact Nat.le_refl _) 0 _ (bS l) rfl
  rw [splitB_bS, List.length_map] at h
  exact h.symm
theorem splitL_len (c : UInt8) : ∀ l : Bs, (splitL c l).length ≤ l.length + 1
  | [] => Nat.le_refl _
  | x :: l => by
    have ih := splitL_len c l
    rw [splitL]
    split
    · simp only [List.length_cons]; omega
    · split
      · simp
      · rename_i w r h
        rw [h] at ih
        simp only [List.length_cons] at ih ⊢
        omega
/-- A row of texts that a literal lays. -/
theorem lit_C (W : World) (xs : List ByteArray) (hn : xs.length ≤ 2097152) : Kd.string.C (W.alloc (.cells (xs.map Value.string).toArray 9)) (some ⟨W.heap.size, 0, none⟩) xs.length xs := by
  have h1 := World.ownsRow_lit (base := 0) (e := 9) (size := 1) W (xs.map Value.string).toArray xs.length (Nat.zero_le _) (by unfold maxLen; omega) (by simp)
  have h2 : Kd.string.R 9 (W.alloc (.cells (xs.map Value.string).toArray 9)) 0 (fun _ => True) (.slice (some ⟨W.heap.size, 0, none⟩) xs.length xs.length) xs :=
    Kd.R_of_own (enc := Value.string) (h1 := fun _ => rfl) (by simpa [Go.Proofs.YtgibcacciedobaaGreatDoorW.PrintWords.encs] using h1) (fun _ _ => trivial)
  exact (Kd.R_reads' h2).2.2
/-- Pieces handed back. -/
def NewP (w : World) (ws : List Bs) (v : Value) (w' : World) : Prop := ∃ A c, v = .slice A ws.length c ∧ ws.length ≤ c ∧ Kd.string.C w' A ws.length (ws.map bS)
theorem split_c (c : UInt8) (l : Bs) (hl : l.length ≤ 1048576) (w : World) (ht : Txt w) : Calls Tryz.prog 115 #[.string (bS l), .string (bS [c])] w (RetQ w (NewP w (splitL c l))) := by
  obtain ⟨m, hm⟩ := ht.mx
  refine (Tryz.strings_Split (bS l) (bS [c]) m w (by rw [bS_size]; omega) hm (by rw [bS_size]; exact Nat.le_refl _)).mono ?_
  rintro e w' ⟨rfl, rfl⟩
  rw [countB_bS]
  refine ⟨_, rfl, balloc (Below.refl _ _) _, _, _, rfl, Nat.le_refl _, ?_⟩
  have h := lit_C w ((splitL c l).map bS) (by rw [List.length_map]; have := splitL_len c l; omega)
  rw [splitB_bS]
  rw [List.length_map] at h
  exact h
theorem at_str {ws : List Bs} {w : World} {A : Option Addr} {n : Nat} (h : Kd.string.C w A n (ws.map bS)) (i : Nat) (hi : i < n) (hn : n = ws.length) :
    ∃ ad x, A = some ad ∧ Aside0 (ws[i]? = some x) ∧ w.cell? (ad.add i) = some (.string (bS x)) := by
  obtain ⟨ad, e, hx⟩ := Kd.at_string h (i : Int) (by omega) (by omega)
  have hl : i < ws.length := by omega
  refine ⟨ad, ws[i], e, ⟨List.getElem?_eq_getElem hl⟩, ?_⟩
  rw [Int.toNat_natCast] at hx
  rw [hx]
  unfold Go.Proofs.YtgibcacciedobaaGreatDoorW.PrintWords.rdOf
  rw [Int.toNat_natCast, List.getD_eq_getElem?_getD, List.getElem?_map, List.getElem?_eq_getElem hl]
  rfl
/-- How far the reference has parted a text. -/
structure SpI (c : UInt8) (l : Bs) (k b : Nat) (P : List Bs) (cur : Bs) : Prop where
  e : splitL c l = P ++ splitL c (cur ++ l.drop k)
  no : c ∉ cur
  cur : cur = (l.take k).drop b
  le : b ≤ k
  n : P.length ≤ k
theorem SpI.hit {c : UInt8} {l : Bs} {k b : Nat} {P : List Bs} {cur : Bs} (h : SpI c l k b P cur) (hx : l[k]? = some c) : SpI c l (k + 1) (k + 1) (P ++ [cur]) [] := by
  have hk := (List.getElem?_eq_some_iff.1 hx).1
  have he := (List.getElem?_eq_some_iff.1 hx).2
  refine ⟨?_, List.not_mem_nil, ?_, Nat.le_refl _, by have := h.n; rw [List.length_append, List.length_singleton]; omega⟩
  · rw [h.e, List.drop_eq_getElem_cons hk, he, splitL_cons _ h.no, List.append_assoc]
    rfl
  · rw [List.drop_of_length_le (by rw [List.length_take]; omega)]
theorem SpI.miss {c x : UInt8} {l : Bs} {k b : Nat} {P : List Bs} {cur : Bs} (h : SpI c l k b P cur) (hx : l[k]? = some x) (hc : x ≠ c) : SpI c l (k + 1) b P (cur ++ [x]) := by
  have hk := (List.getElem?_eq_some_iff.1 hx).1
  have he := (List.getElem?_eq_some_iff.1 hx).2
  refine ⟨?_, ?_, ?_, by have := h.le; omega, by have := h.n; omega⟩
  · rw [h.e, List.drop_eq_getElem_cons hk, he, List.append_assoc]
    rfl
  · intro hm
    rcases List.mem_append.1 hm with hm | hm
    · exact h.no hm
    · exact hc (List.mem_singleton.1 hm).symm
  · rw [take_snoc hx, List.drop_append_of_le_length (by rw [List.length_take]; have := h.le; omega), ← h.cur]
theorem SpI.done {c : UInt8} {l : Bs} {b : Nat} {P : List Bs} {cur : Bs} (h : SpI c l l.length b P cur) : splitL c l = P ++ [cur] := by
  rw [h.e, List.drop_length, List.append_nil, splitL_none h.no]
end Go.Proofs.YtgibcacciedobaaGreatDoor
end
section
/- Books' texts in plain Lean: what a book's text is, and that it is found again. -/
namespace Go.Proofs.YtgibcacciedobaaGreatDoor
open Go.RowKit Go.Proofs.YtgibcacciedobaaGreatDoorW.PrintWords Go.Proofs.YtgibcacciedobaaGreatDoorW.PrintMore
set_option linter.unusedVariables false
set_option linter.unusedSimpArgs false
set_option maxRecDepth 100000

def mkB (b : Bk) : Bs := [UInt8.ofNat b.m0.toNat, UInt8.ofNat b.m1.toNat, UInt8.ofNat b.m2.toNat]
theorem mkB_str (b : Bk) : strOfNums [b.m0, b.m1, b.m2] = bS (mkB b) := rfl
def bkWs (b : Bk) : List Bs := [dg b.c, mkB b, dg b.v, dg b.wd ++ 120 :: dg b.h, dg b.wt]
/-- The text of a book. -/
def bkT (b : Bk) : Bs := joinL 32 (bkWs b)
theorem bkT_join (b : Bk) : Go.Lib.join [dg b.c, mkB b, dg b.v, dg b.wd ++ 120 :: dg b.h, dg b.wt] [32] = bkT b := by
  simp [Go.Lib.join_cons, Go.Lib.joinTail, bkT, bkWs, joinL]
theorem bkT_eq (b : Bk) : bkT b = dg b.c ++ [32] ++ mkB b ++ [32] ++ dg b.v ++ [32] ++ dg b.wd ++ [120] ++ dg b.h ++ [32] ++ dg b.wt := by
  simp [bkT, bkWs, joinL]
structure VB1 (b : Bk) : Prop where
  c : 0 ≤ b.c ∧ b.c ≤ 999
  m0 : 97 ≤ b.m0 ∧ b.m0 ≤ 122
  m1 : 97 ≤ b.m1 ∧ b.m1 ≤ 122
  m2 : 97 ≤ b.m2 ∧ b.m2 ≤ 122
  v : 1 ≤ b.v ∧ b.v ≤ 99
  wd : 1 ≤ b.wd ∧ b.wd ≤ 100
  h : 50 ≤ b.h ∧ b.h ≤ 400
  wt : 1 ≤ b.wt ∧ b.wt ≤ 9999
theorem vB1 {b : Bk} (h : vBook b = true) : VB1 b := by
  simp only [vBook, vMark, inR, Bool.and_eq_true, decide_eq_true_eq] at h
  obtain ⟨h1, ⟨h2, h3, h4⟩, h5, h6, h7, h8⟩ := h
  exact ⟨h1, h2, h3, h4, h5, h6, h7, h8⟩
theorem mkB_small {b : Bk} (h : VB1 b) {x : UInt8} (hx : x ∈ mkB b) : 97 ≤ x.toNat ∧ x.toNat ≤ 122 := by
  obtain ⟨_, h0, h1, h2, _⟩ := h
  unfold mkB at hx
  simp only [List.mem_cons, List.not_mem_nil, or_false] at hx
  rcases hx with rfl | rfl | rfl <;> (rw [UInt8.toNat_ofNat']; omega)
theorem bkWs_no {b : Bk} (h : VB1 b) : ∀ w, w ∈ bkWs b → (32 : UInt8) ∉ w := by
  intro w hw
  unfold bkWs at hw
  simp only [List.mem_cons, List.not_mem_nil, or_false] at hw
  rcases hw with rfl | rfl | rfl | rfl | rfl
  · exact not_dig (by decide)
  · intro hm
    have := mkB_small h hm
    exact absurd this.1 (by decide)
  · exact not_dig (by decide)
  · intro hm
    rcases List.mem_append.1 hm with hm | hm
    · exact not_dig (by decide) hm
    · rcases List.mem_cons.1 hm with hm | hm
      · exact absurd hm (by decide)
      · exact not_dig (by decide) hm
  · exact not_dig (by decide)
theorem bkT_split {b : Bk} (h : VB1 b) : splitL 32 (bkT b) = bkWs b := splitL_join (List.cons_ne_nil _ _) (bkWs_no h)
theorem sizes_split (b : Bk) : splitL 120 (dg b.wd ++ 120 :: dg b.h) = [dg b.wd, dg b.h] := by
  rw [splitL_cons _ (not_dig (by decide)), splitL_none (not_dig (by decide))]
theorem u8_inj {n m : Int} (h0 : 97 ≤ n ∧ n ≤ 122) (h1 : 97 ≤ m ∧ m ≤ 122) (h : UInt8.ofNat n.toNat = UInt8.ofNat m.toNat) : n = m := by
  have := congrArg UInt8.toNat h
  rw [UInt8.toNat_ofNat', UInt8.toNat_ofNat'] at this
  omega
/-- A text is that of a book. -/
def RdB (l : Bs) (b : Bk) : Prop := vBook b = true ∧ bkT b = l
theorem RdB.unique {l : Bs} {b b' : Bk} (h : RdB l b) (h' : RdB l b') : b = b' := by
  have v := vB1 h.1
  have v' := vB1 h'.1
  have e : bkWs b = bkWs b' := by rw [← bkT_split v, ← bkT_split v', h.2, h'.2]
  unfold bkWs mkB at e
  simp only [List.cons.injEq, and_true] at e
  obtain ⟨e1, ⟨e2, e3, e4⟩, e5, e6, e7⟩ := e
  have e8 := congrArg (splitL 120) e6
  rw [sizes_split, sizes_split] at e8
  simp only [List.cons.injEq, and_true] at e8
  cases b; cases b'
  simp only [Bk.mk.injEq]
  obtain ⟨a1, a2, a3, a4, a5, a6, a7, a8⟩ := v
  obtain ⟨c1, c2, c3, c4, c5, c6, c7, c8⟩ := v'
  exact ⟨dg_inj (by simpa using a1.1) (by simpa using c1.1) e1, u8_inj a2 c2 e2, u8_inj a3 c3 e3, u8_inj a4 c4 e4, dg_inj (by simp at a5; omega) (by simp at c5; omega) e5, dg_inj (by simp at a6; omega) (by simp at c6; omega) e8.1, dg_inj (by simp at a7; omega) (by simp at c7; omega) e8.2, dg_inj (by simp at a8; omega) (by simp at c8; omega) e7⟩
theorem bkT_len {b : Bk} (h : VB1 b) : (bkT b).length ≤ 30 := by
  have h1 := dg_len (n := b.c) 2 h.c.1 (by have := h.c.2; omega)
  have h2 := dg_len (n := b.v) 1 (by have := h.v; omega) (by have := h.v; omega)
  have h3 := dg_len (n := b.wd) 2 (by have := h.wd; omega) (by have := h.wd; omega)
  have h4 := dg_len (n := b.h) 2 (by have := h.h; omega) (by have := h.h; omega)
  have h5 := dg_len (n := b.wt) 3 (by have := h.wt; omega) (by have := h.wt; omega)
  rw [bkT_eq]
  simp only [List.length_append, List.length_cons, List.length_nil, mkB]
  omega
end Go.Proofs.YtgibcacciedobaaGreatDoor
end
section
/- A book's text: the program's and the reference's. -/
namespace Go.Proofs.YtgibcacciedobaaGreatDoor
open Go.RowKit Go.Proofs.YtgibcacciedobaaGreatDoorW.PrintWords Go.Proofs.YtgibcacciedobaaGreatDoorW.PrintMore
set_option linter.unusedVariables false
set_option linter.unusedSimpArgs false
set_option maxRecDepth 100000

theorem mk_conv {W : World} {g : Nat} {b : Bk} (h : BkAt W ⟨g, 0, none⟩ b) (c : Nat) : (convert 22 9 (.slice (some ⟨g, 1, none⟩) 3 c)).run Tryz.prog W = .ok (.string (bS (mkB b))) W :=
  Kd.C_string (xs := [b.m0, b.m1, b.m2]) Tryz.underlying22 Tryz.underlying5 Tryz.underlying9 (marks_C W g 1 b.m0 b.m1 b.m2 h.c1 h.c2 h.c3)
theorem mk_convA {W : World} {a : Addr} {b : Bk} (h : BkAt W a b) (c : Nat) : (convert 22 9 (.slice (some ⟨a.block, a.off + 1, none⟩) 3 c)).run Tryz.prog W = .ok (.string (bS (mkB b))) W :=
  Kd.C_string (xs := [b.m0, b.m1, b.m2]) Tryz.underlying22 Tryz.underlying5 Tryz.underlying9 (marks_C W a.block (a.off + 1) b.m0 b.m1 b.m2 h.c1 h.c2 h.c3)
theorem dgS_le {n : Int} (h0 : 0 ≤ n) (h1 : n ≤ 99999) : (bS (dg n)).size ≤ 5 := by
  rw [bS_size]
  exact dg_len 4 h0 (by omega)
theorem mkS_size (b : Bk) : (bS (mkB b)).size = 3 := by rw [bS_size]; rfl
set_option maxHeartbeats 4000000 in
theorem bookText_c (b : Bk) (hv : VB1 b) (w : World) (ht : Tab w) : Calls Tryz.prog 92 #[b.val] w (Ret w (.string (bS (bkT b)))) := by
  have hbx := BkAt.box w b 30
  have hb0 : Below w.heap.size w (w.alloc (.cells #[.int .i16 b.c, .int .u8 b.m0, .int .u8 b.m1, .int .u8 b.m2, .int .i16 b.v, .int .i16 b.wd, .int .i16 b.h, .int .i16 b.wt] 30)) := balloc (Below.refl _ _) _
  have HT := Aside0.mk (ht.below hb0)
  have HV := Aside0.mk hv
  simp only [Bk.val]
  clear ht hv
  go_enter Tryz.func92, Tryz.ntmps92
  go_wp2_with fail
  generalize World.alloc w _ = W1 at hbx hb0 HT ⊢
  generalize w.heap.size = g at hbx ⊢
  have HB0 := Aside0.mk hb0
  have HBX := Aside0.mk hbx
  clear hb0
  obtain ⟨c0, c1, c2, c3, c4, c5, c6, c7⟩ := hbx
  have o0 : ∀ p : Over W1, p.W.cell? ⟨g, 0, none⟩ = some (.int .i16 b.c) := Over.cell c0
  have o4 : ∀ p : Over W1, p.W.cell? ⟨g, 4, none⟩ = some (.int .i16 b.v) := Over.cell c4
  have o5 : ∀ p : Over W1, p.W.cell? ⟨g, 5, none⟩ = some (.int .i16 b.wd) := Over.cell c5
  have o6 : ∀ p : Over W1, p.W.cell? ⟨g, 6, none⟩ = some (.int .i16 b.h) := Over.cell c6
  have o7 : ∀ p : Over W1, p.W.cell? ⟨g, 7, none⟩ = some (.int .i16 b.wt) := Over.cell c7
  have ocv : ∀ (p : Over W1) (c : Nat), (convert 22 9 (.slice (some ⟨g, 1, none⟩) 3 c)).run Tryz.prog p.W = .ok (.string (bS (mkB b))) p.W := fun p c => mk_conv (HBX.out.below p.h) c
  clear c0 c1 c2 c3 c4 c5 c6 c7
  have HD := Aside0.mk (fun (n : Int) (h : 0 ≤ n ∧ n ≤ 32767) (p : Over W1) => Calls.over_of (dec16_c n h.1 h.2 p.W (HT.out.below p.h)))
  have x1 := dgS_le (n := b.wd) (by have := HV.out.wd; omega) (by have := HV.out.wd; omega)
  have x2 := dgS_le (n := b.h) (by have := HV.out.h; omega) (by have := HV.out.h; omega)
  have y1 : ¬ (9223372036854775807 < (bS (dg b.wd)).size + 1) := by omega
  have y2 : ¬ (9223372036854775807 < (bS (dg b.wd)).size + 1 + (bS (dg b.h)).size) := by omega
  refine region_over_tail 20 (by kernel_rfl) (by kernel_rfl) ?_
  simp only [List.take_succ_cons, List.take_zero, List.drop_succ_cons, List.drop_zero]
  repeat (go_big_quiet_step (first | (go_at_call 149; exact HD.out _ (by first | exact ⟨HV.out.c.1, by have := HV.out.c; omega⟩ | exact ⟨by have := HV.out.v; omega, by have := HV.out.v; omega⟩ | exact ⟨by have := HV.out.wd; omega, by have := HV.out.wd; omega⟩ | exact ⟨by have := HV.out.h; omega, by have := HV.out.h; omega⟩ | exact ⟨by have := HV.out.wt; omega, by have := HV.out.wt; omega⟩) _)))
  refine wpQuiet_nil ?_
  intro wq hw'
  have hq_wq := over_out hw'
  clear hw'
  have hx : bS (dg b.wd) ++ { data := #[120] } ++ bS (dg b.h) = bS (dg b.wd ++ 120 :: dg b.h) := by
    rw [show ({ data := #[120] } : ByteArray) = bS [120] from rfl, bS_append, bS_append, List.append_assoc]
    rfl
  have HJ := Aside0.mk (Tryz.strings_Join wq.heap.size 0 5 [bS (dg b.c), bS (mkB b), bS (dg b.v), bS (dg b.wd ++ 120 :: dg b.h), bS (dg b.wt)] ⟨#[32]⟩ (wq.alloc (.cells #[.string (bS (dg b.c)), .string (bS (mkB b)), .string (bS (dg b.v)), .string (bS (dg b.wd ++ 120 :: dg b.h)), .string (bS (dg b.wt))] 9))
    (fun j x hj => by match j, hj with
      | 0, hj => cases hj; exact (blk_cell (blk_new wq _) 0).trans rfl
      | 1, hj => cases hj; exact (blk_cell (blk_new wq _) 1).trans rfl
      | 2, hj => cases hj; exact (blk_cell (blk_new wq _) 2).trans rfl
      | 3, hj => cases hj; exact (blk_cell (blk_new wq _) 3).trans rfl
      | 4, hj => cases hj; exact (blk_cell (blk_new wq _) 4).trans rfl) (by simp) (by simp) (by simp)
    (by
      simp only [List.map_cons, List.map_nil, bS_toList]
      rw [bkT_join]
      have := bkT_len HV.out
      omega))
  have HB1 := Aside0.mk (bstep HB0.out hq_wq)
  clear o0 o4 o5 o6 o7 ocv x1 x2 y1 y2 hq_wq
  simp only [hx]
  go_wp2_with fail
  refine HJ.out.mono ?_; rintro _ w2 ⟨rfl, hb2⟩
  have HB2 := Aside0.mk (bstep (balloc HB1.out _) hb2)
  clear hb2
  go_wp2
  go_ret
  refine ⟨ret_str ?_, HB2.out⟩
  simp only [List.map_cons, List.map_nil, bS_toList]
  rw [bkT_join]
  rfl
theorem str_assoc (a b c : Bs) : bS a ++ bS b ++ bS c = bS (a ++ b ++ c) := by rw [bS_append, bS_append]
end Go.Proofs.YtgibcacciedobaaGreatDoor
end
section
/- Books read from their texts, in plain Lean. -/
namespace Go.Proofs.YtgibcacciedobaaGreatDoor
open Go.RowKit Go.Proofs.YtgibcacciedobaaGreatDoorW.PrintWords Go.Proofs.YtgibcacciedobaaGreatDoorW.PrintMore
set_option linter.unusedVariables false
set_option linter.unusedSimpArgs false
set_option maxRecDepth 100000

/-- The book that is made of five words. -/
def bkOf (w0 w2 w3 w4 : Bs) (x y z : UInt8) : Bk := ⟨shN w0, x.toNat, y.toNat, z.toNat, shN w2, shN (Go.Lib.cut w3 [120]).1, shN (Go.Lib.cut w3 [120]).2.1, shN w4⟩
theorem u8_back {n : Int} (h : 97 ≤ n ∧ n ≤ 122) : ((UInt8.ofNat n.toNat).toNat : Int) = n := by rw [UInt8.toNat_ofNat']; omega
theorem bkOf_back {b : Bk} (h : VB1 b) : bkOf (dg b.c) (dg b.v) (dg b.wd ++ 120 :: dg b.h) (dg b.wt) (UInt8.ofNat b.m0.toNat) (UInt8.ofNat b.m1.toNat) (UInt8.ofNat b.m2.toNat) = b := by
  obtain ⟨h1, h2, h3, h4, h5, h6, h7, h8⟩ := h
  unfold bkOf
  rw [cut_one (not_dig (by decide))]
  simp only
  rw [shN_dg h1.1 (by omega), u8_back h2, u8_back h3, u8_back h4, shN_dg (by omega) (by omega), shN_dg (by omega) (by omega), shN_dg (by omega) (by omega), shN_dg (by omega) (by omega)]
/-- How a book is read: the book of the text, or none. -/
def BkR (l : Bs) (b : Bk) (n : Int) (err : Int) : Prop := (n = 0 ∧ RdB l b) ∨ (n = err ∧ b = ⟨0, 0, 0, 0, 0, 0, 0, 0⟩ ∧ ∀ b', ¬ RdB l b')
theorem BkR.unique {l : Bs} {b b' : Bk} {n n' err : Int} (h : BkR l b n err) (h' : BkR l b' n' err) : b = b' ∧ n = n' := by
  rcases h with ⟨h1, h2⟩ | ⟨h1, h2, h3⟩ <;> rcases h' with ⟨k1, k2⟩ | ⟨k1, k2, k3⟩
  · exact ⟨h2.unique k2, by rw [h1, k1]⟩
  · exact absurd h2 (k3 _)
  · exact absurd k2 (h3 _)
  · exact ⟨by rw [h2, k2], by rw [h1, k1]⟩
theorem rd_words {l : Bs} {b : Bk} (h : RdB l b) : splitL 32 l = bkWs b := by rw [← h.2]; exact bkT_split (vB1 h.1)
theorem rd_none {l : Bs} (h : (splitL 32 l).length ≠ 5) (b : Bk) : ¬ RdB l b := fun hr => h (by rw [rd_words hr]; rfl)
theorem rd_none3 {l w0 w1 w2 w3 w4 : Bs} (h : splitL 32 l = [w0, w1, w2, w3, w4]) (h3 : w1.length ≠ 3) (b : Bk) : ¬ RdB l b := fun hr => by
  have := rd_words hr
  rw [h] at this
  unfold bkWs at this
  simp only [List.cons.injEq] at this
  exact h3 (by rw [this.2.1]; rfl)
theorem rd_five {l w0 w2 w3 w4 : Bs} {x y z : UInt8} (h : splitL 32 l = [w0, [x, y, z], w2, w3, w4]) {b : Bk} (hr : RdB l b) : bkOf w0 w2 w3 w4 x y z = b := by
  have := rd_words hr
  rw [h] at this
  unfold bkWs mkB at this
  simp only [List.cons.injEq, and_true] at this
  obtain ⟨rfl, ⟨rfl, rfl, rfl⟩, rfl, rfl, rfl⟩ := this
  exact bkOf_back (vB1 hr.1)
/-- The program's reading. -/
theorem rd_impl {l w0 w2 w3 w4 : Bs} {x y z : UInt8} (h : splitL 32 l = [w0, [x, y, z], w2, w3, w4]) (err : Int) :
    BkR l (if (vBook (bkOf w0 w2 w3 w4 x y z) && (bkT (bkOf w0 w2 w3 w4 x y z) == l)) = true then bkOf w0 w2 w3 w4 x y z else ⟨0, 0, 0, 0, 0, 0, 0, 0⟩) (if (vBook (bkOf w0 w2 w3 w4 x y z) && (bkT (bkOf w0 w2 w3 w4 x y z) == l)) = true then 0 else err) err := by
  split
  · rename_i hc
    rw [Bool.and_eq_true, beq_iff_eq] at hc
    exact .inl ⟨rfl, hc⟩
  · rename_i hc
    refine .inr ⟨rfl, rfl, fun b hb => hc ?_⟩
    rw [rd_five h hb, Bool.and_eq_true, beq_iff_eq]
    exact hb
/-- The reference's reading: what five numbers give. -/
theorem rd_spec {l w0 w2 w3 w4 p q : Bs} {x y z : UInt8} {a0 a1 a2 a3 a4 : Nat} (h : splitL 32 l = [w0, [x, y, z], w2, w3, w4]) (h3 : splitL 120 w3 = [p, q])
    (n0 : numL w0 = some a0) (n1 : numL w2 = some a1) (n2 : numL p = some a2) (n3 : numL q = some a3) (n4 : numL w4 = some a4) :
    bkT ⟨a0, x.toNat, y.toNat, z.toNat, a1, a2, a3, a4⟩ = l := by
  have e := joinL_split 32 l
  rw [h] at e
  have e3 := joinL_split 120 w3
  rw [h3] at e3
  rw [← e]
  unfold bkT bkWs mkB
  simp only [numL_back n0, numL_back n1, numL_back n2, numL_back n3, numL_back n4]
  have hm : [UInt8.ofNat ((x.toNat : Int)).toNat, UInt8.ofNat ((y.toNat : Int)).toNat, UInt8.ofNat ((z.toNat : Int)).toNat] = [x, y, z] := by simp
  rw [hm, ← e3]
  rfl
/-- A book's words are read by the reference too. -/
theorem rd_spec_words {l w0 w2 w3 w4 : Bs} {x y z : UInt8} (h : splitL 32 l = [w0, [x, y, z], w2, w3, w4]) {b : Bk} (hr : RdB l b) :
    splitL 120 w3 = [dg b.wd, dg b.h] ∧ w0 = dg b.c ∧ w2 = dg b.v ∧ w4 = dg b.wt ∧ x = UInt8.ofNat b.m0.toNat ∧ y = UInt8.ofNat b.m1.toNat ∧ z = UInt8.ofNat b.m2.toNat := by
  have := rd_words hr
  rw [h] at this
  unfold bkWs mkB at this
  simp only [List.cons.injEq, and_true] at this
  obtain ⟨rfl, ⟨rfl, rfl, rfl⟩, rfl, rfl, rfl⟩ := this
  exact ⟨sizes_split b, rfl, rfl, rfl, rfl, rfl, rfl⟩
end Go.Proofs.YtgibcacciedobaaGreatDoor
end
section
/- The laws comparisons: eqByteA3, eqBook, eqBookS. -/
namespace Go.Proofs.YtgibcacciedobaaGreatDoor
open Go.RowKit Go.Proofs.YtgibcacciedobaaGreatDoorW.PrintWords Go.Proofs.YtgibcacciedobaaGreatDoorW.PrintMore
set_option linter.unusedVariables false
set_option linter.unusedSimpArgs false
set_option maxRecDepth 100000

end Go.Proofs.YtgibcacciedobaaGreatDoor
end
section
/- ReadBook: the program's and the reference's. -/
namespace Go.Proofs.YtgibcacciedobaaGreatDoor
open Go.RowKit Go.Proofs.YtgibcacciedobaaGreatDoorW.PrintWords Go.Proofs.YtgibcacciedobaaGreatDoorW.PrintMore
set_option linter.unusedVariables false
set_option linter.unusedSimpArgs false
set_option maxRecDepth 100000

abbrev Bk0 : Bk := ⟨0, 0, 0, 0, 0, 0, 0, 0⟩
open Classical in
/-- The book of a text, none if there is none. -/
noncomputable def bkV (l : Bs) : Bk := if h : ∃ b, RdB l b then Classical.choose h else Bk0
open Classical in
noncomputable def bkK (l : Bs) : Bool := if ∃ b, RdB l b then true else false
theorem bk_ok {l : Bs} {b : Bk} (h : RdB l b) : bkV l = b ∧ bkK l = true := by
  have hx : ∃ b, RdB l b := ⟨b, h⟩
  unfold bkV bkK
  rw [dif_pos hx, if_pos hx]
  exact ⟨(Classical.choose_spec hx).unique h, rfl⟩
theorem bk_no {l : Bs} (h : ∀ b, ¬ RdB l b) : bkV l = Bk0 ∧ bkK l = false := by
  have hx : ¬ ∃ b, RdB l b := fun ⟨b, hb⟩ => h b hb
  unfold bkV bkK
  rw [dif_neg hx, if_neg hx]
  exact ⟨rfl, rfl⟩
theorem splitL_mem (c : UInt8) : ∀ (l : Bs) (w : Bs), w ∈ splitL c l → w.length ≤ l.length
  | [], w, h => by rw [splitL, List.mem_singleton] at h; rw [h]; exact Nat.le_refl _
  | x :: l, w, h => by
    have ih := splitL_mem c l
    rw [splitL] at h
    split at h
    · rcases List.mem_cons.1 h with rfl | h
      · exact Nat.zero_le _
      · exact Nat.le_succ_of_le (ih w h)
    · split at h
      · rw [List.mem_singleton] at h
        rw [h]
        simp
      · rename_i v r hs
        rcases List.mem_cons.1 h with rfl | h
        · have := ih v (by rw [hs]; simp)
          simp only [List.length_cons]
          omega
        · exact Nat.le_succ_of_le (ih w (by rw [hs]; simp [h]))
theorem ret_bk {a b : Bk} {c d : Bool} (h : a = b) (k : c = d) : Ending.returned (.tuple #[a.val, .bool c]) = .returned (.tuple #[b.val, .bool d]) := by rw [h, k]
theorem five {α : Type} {l : List α} (h : l.length = 5) : ∃ a0 a1 a2 a3 a4, l = [a0, a1, a2, a3, a4] := by
  match l, h with
  | [a0, a1, a2, a3, a4], _ => exact ⟨a0, a1, a2, a3, a4, rfl⟩
theorem three {α : Type} {l : List α} (h : l.length = 3) : ∃ a0 a1 a2, l = [a0, a1, a2] := by
  match l, h with
  | [a0, a1, a2], _ => exact ⟨a0, a1, a2, rfl⟩
theorem at5 {a0 a1 a2 a3 a4 : Bs} {w : World} {A : Option Addr} (h : Kd.string.C w A 5 ([a0, a1, a2, a3, a4].map bS)) :
    ∃ ad, A = some ad ∧ w.cell? ad = some (.string (bS a0)) ∧ w.cell? ⟨ad.block, ad.off + 1, none⟩ = some (.string (bS a1)) ∧ w.cell? ⟨ad.block, ad.off + 2, none⟩ = some (.string (bS a2)) ∧ w.cell? ⟨ad.block, ad.off + 3, none⟩ = some (.string (bS a3)) ∧ w.cell? ⟨ad.block, ad.off + 4, none⟩ = some (.string (bS a4)) := by
  obtain ⟨ad, x0, rfl, h0, e0⟩ := at_str (ws := [a0, a1, a2, a3, a4]) h 0 (by decide) rfl
  obtain ⟨d1, x1, k1, h1, e1⟩ := at_str (ws := [a0, a1, a2, a3, a4]) h 1 (by decide) rfl
  obtain ⟨d2, x2, k2, h2, e2⟩ := at_str (ws := [a0, a1, a2, a3, a4]) h 2 (by decide) rfl
  obtain ⟨d3, x3, k3, h3, e3⟩ := at_str (ws := [a0, a1, a2, a3, a4]) h 3 (by decide) rfl
  obtain ⟨d4, x4, k4, h4, e4⟩ := at_str (ws := [a0, a1, a2, a3, a4]) h 4 (by decide) rfl
  cases k1; cases k2; cases k3; cases k4
  have h0 := h0.out; have h1 := h1.out; have h2 := h2.out; have h3 := h3.out; have h4 := h4.out
  cases h0; cases h1; cases h2; cases h3; cases h4
  exact ⟨ad, rfl, e0, e1, e2, e3, e4⟩
/-- What the program's reading hands back. -/
def rbV (l : Bs) : Bk := match splitL 32 l with
  | [a0, [x, y, z], a2, a3, a4] => bkOf a0 a2 a3 a4 x y z
  | _ => Bk0
theorem rb_five {l w0 w2 w3 w4 : Bs} {x y z : UInt8} (h : splitL 32 l = [w0, [x, y, z], w2, w3, w4]) : rbV l = bkOf w0 w2 w3 w4 x y z := by unfold rbV; rw [h]
theorem rb_n {l : Bs} (h : (splitL 32 l).length ≠ 5) : rbV l = Bk0 := by
  unfold rbV
  split
  · rename_i e
    rw [e] at h
    exact absurd rfl h
  · rfl
theorem rb_n3 {l w0 w1 w2 w3 w4 : Bs} (h : splitL 32 l = [w0, w1, w2, w3, w4]) (h3 : w1.length ≠ 3) : rbV l = Bk0 := by
  unfold rbV
  rw [h]
  split
  · rename_i e
    cases e
    exact absurd rfl h3
  · rfl
theorem rd_case {l w0 w2 w3 w4 : Bs} {x y z : UInt8} (h : splitL 32 l = [w0, [x, y, z], w2, w3, w4]) :
    if (vBook (bkOf w0 w2 w3 w4 x y z) && (bkT (bkOf w0 w2 w3 w4 x y z) == l)) = true then bkV l = bkOf w0 w2 w3 w4 x y z ∧ bkK l = true else bkV l = Bk0 ∧ bkK l = false := by
  have hr := rd_impl h 1
  split
  · rename_i hc
    rw [if_pos hc, if_pos hc] at hr
    rcases hr with ⟨_, hb⟩ | ⟨h0, _⟩
    · exact bk_ok hb
    · cases h0
  · rename_i hc
    rw [if_neg hc, if_neg hc] at hr
    rcases hr with ⟨h0, _⟩ | ⟨_, _, hb⟩
    · cases h0
    · exact bk_no hb
theorem rb_ok {l : Bs} (h : bkK l = true) : rbV l = bkV l := by
  by_cases hn : (splitL 32 l).length = 5
  · obtain ⟨a0, a1, a2, a3, a4, hws⟩ := five hn
    by_cases h3 : a1.length = 3
    · obtain ⟨x, y, z, rfl⟩ := three h3
      have := rd_case hws
      split at this
      · rw [this.1, rb_five hws]
      · rw [this.2] at h
        cases h
    · rw [(bk_no (rd_none3 hws h3)).2] at h
      cases h
  · rw [(bk_no (rd_none hn)).2] at h
    cases h
theorem rd_k {l w0 w2 w3 w4 : Bs} {x y z : UInt8} (h : splitL 32 l = [w0, [x, y, z], w2, w3, w4]) : bkK l = (vBook (bkOf w0 w2 w3 w4 x y z) && (bkT (bkOf w0 w2 w3 w4 x y z) == l)) := by
  have := rd_case h
  split at this
  · rename_i hc
    rw [hc, this.2]
  · rename_i hc
    rw [this.2]
    exact ((Bool.not_eq_true _).mp hc).symm
theorem cut_len1 (c : UInt8) (l : Bs) : (Go.Lib.cut l [c]).1.length ≤ l.length ∧ (Go.Lib.cut l [c]).2.1.length ≤ l.length := by
  unfold Go.Lib.cut
  split <;> simp <;> omega
/-- A book stored over a book. -/
def put8 (W : World) (g : Nat) (b : Bk) : World := (((((((W.setCell ⟨g, 0, none⟩ (.int .i16 b.c)).setCell ⟨g, 1, none⟩ (.int .u8 b.m0)).setCell ⟨g, 2, none⟩ (.int .u8 b.m1)).setCell ⟨g, 3, none⟩ (.int .u8 b.m2)).setCell ⟨g, 4, none⟩ (.int .i16 b.v)).setCell ⟨g, 5, none⟩ (.int .i16 b.wd)).setCell ⟨g, 6, none⟩ (.int .i16 b.h)).setCell ⟨g, 7, none⟩ (.int .i16 b.wt)
abbrev bkCs (b : Bk) : Array Value := #[.int .i16 b.c, .int .u8 b.m0, .int .u8 b.m1, .int .u8 b.m2, .int .i16 b.v, .int .i16 b.wd, .int .i16 b.h, .int .i16 b.wt]
theorem put8_blk {W : World} {g : Nat} {t : TypeId} {z0 z1 z2 z3 z4 z5 z6 z7 : Value} (b : Bk) (h : W.heap[g]? = some (.cells #[z0, z1, z2, z3, z4, z5, z6, z7] t (0, 0))) : (put8 W g b).heap[g]? = some (.cells (bkCs b) t (0, 0)) := by
  unfold put8
  have h7 := blk_set (blk_set (blk_set (blk_set (blk_set (blk_set (blk_set (blk_set h 0 (.int .i16 b.c)) 1 (.int .u8 b.m0)) 2 (.int .u8 b.m1)) 3 (.int .u8 b.m2)) 4 (.int .i16 b.v)) 5 (.int .i16 b.wd)) 6 (.int .i16 b.h)) 7 (.int .i16 b.wt)
  simpa only [List.setIfInBounds_toArray, List.set_cons_zero, List.set_cons_succ] using h7
theorem put8_far {W : World} {g g' : Nat} {t : TypeId} {cs : Array Value} (b : Bk) (h : W.heap[g']? = some (.cells cs t (0, 0))) (hg : g' ≠ g) : (put8 W g b).heap[g']? = some (.cells cs t (0, 0)) :=
  blk_far (blk_far (blk_far (blk_far (blk_far (blk_far (blk_far (blk_far h (p := ⟨g, 0, none⟩) hg _) (p := ⟨g, 1, none⟩) hg _) (p := ⟨g, 2, none⟩) hg _) (p := ⟨g, 3, none⟩) hg _) (p := ⟨g, 4, none⟩) hg _) (p := ⟨g, 5, none⟩) hg _) (p := ⟨g, 6, none⟩) hg _) (p := ⟨g, 7, none⟩) hg _
theorem put8_below {w W : World} {g : Nat} (b : Bk) (h : Below w.heap.size w W) (hg : w.heap.size ≤ g) : Below w.heap.size w (put8 W g b) := by
  unfold put8
  exact Below.setCell (Below.setCell (Below.setCell (Below.setCell (Below.setCell (Below.setCell (Below.setCell (Below.setCell h (p := ⟨g, 0, none⟩) hg _) (p := ⟨g, 1, none⟩) hg _) (p := ⟨g, 2, none⟩) hg _) (p := ⟨g, 3, none⟩) hg _) (p := ⟨g, 4, none⟩) hg _) (p := ⟨g, 5, none⟩) hg _) (p := ⟨g, 6, none⟩) hg _) (p := ⟨g, 7, none⟩) hg _
/-- What a store into the result keeps. -/
def KG (w0 : World) (g : Nat) (b w : World) : Prop := (∀ o, b.heap[g]? = some o → w.heap[g]? = some o) ∧ (Below w0.heap.size w0 b → Below w0.heap.size w0 w)
theorem kG (w0 : World) (g : Nat) : Keep (KG w0 g) := ⟨fun h => ⟨fun _ ho => blk_below ho h, fun hb => bstep hb h⟩, fun h k => ⟨fun _ ho => k.1 _ (h.1 _ ho), fun hb => k.2 (h.2 hb)⟩⟩
theorem run_arr (W : World) (g c : Nat) : (Instr.arrayAt 28 (.slice (some ⟨g, 0, none⟩) 3 c)).run Tryz.prog W = .ok (.pointer (some ⟨g, 0, none⟩)) W := by
  simp [Instr.arrayAt, run_underlying Tryz.underlying28]
theorem cut_c (l : Bs) (hl : l.length ≤ 1048576) (w : World) (ht : Txt w) : Calls Tryz.prog 148 #[.string (bS l), .string (bS [120])] w (Ret w (.tuple #[.string (bS (Go.Lib.cut l [120]).1), .string (bS (Go.Lib.cut l [120]).2.1), .bool (Go.Lib.cut l [120]).2.2])) := by
  obtain ⟨m, hm⟩ := ht.mx
  refine (Tryz.strings_Cut (bS l) (bS [120]) m w (by rw [bS_size]; omega) hm).mono ?_
  rintro e w' ⟨rfl, k, rfl⟩
  rw [bS_toList, bS_toList]
  exact ⟨rfl, bdrewN (Below.refl _ _) k⟩
set_option maxHeartbeats 4000000 in
theorem readBook_c (l : Bs) (hl : l.length ≤ 1048576) (w : World) (ht : Txt w) : Calls Tryz.prog 91 #[.string (bS l)] w (Ret w (.tuple #[(rbV l).val, .bool (bkK l)])) := by
  have hb0 : Below w.heap.size w (w.alloc (.cells #[.int .i16 0, .int .u8 0, .int .u8 0, .int .u8 0, .int .i16 0, .int .i16 0, .int .i16 0, .int .i16 0] 30)) := balloc (Below.refl _ _) _
  have hbx := blk_new w (.cells #[.int .i16 0, .int .u8 0, .int .u8 0, .int .u8 0, .int .i16 0, .int .i16 0, .int .i16 0, .int .i16 0] 30)
  have HS := Aside0.mk (fun W h => split_c 32 l hl W h)
  have HML := Aside0.mk (fun x hx => Nat.le_trans (splitL_mem 32 l x hx) hl)
  have HT := Aside0.mk (ht.below hb0)
  have HT0 := Aside0.mk ht
  clear ht
  by_cases hn : (splitL 32 l).length = 5
  · obtain ⟨a0, a1, a2, a3, a4, hws⟩ := five hn
    clear hn
    by_cases h3 : a1.length = 3
    · obtain ⟨x, y, z, rfl⟩ := three h3
      have HR := Aside0.mk (show rbV l = bkOf a0 a2 a3 a4 x y z ∧ bkK l = (vBook (bkOf a0 a2 a3 a4 x y z) && (bkT (bkOf a0 a2 a3 a4 x y z) == l)) from ⟨rb_five hws, rd_k hws⟩)
      rw [hws] at HS HML
      clear hws h3
      have HD := Aside0.mk (fun (a : Bs) (h : a.length ≤ 1048576) (W : World) (hw : Txt W) => short_c a h W hw)
      have l0 := HML.out a0 (by simp)
      have l2 := HML.out a2 (by simp)
      have l3 := HML.out a3 (by simp)
      have l4 := HML.out a4 (by simp)
      have HU := Aside0.mk (fun W h => cut_c a3 l3 W h)
      have hcl := cut_len1 120 a3
      generalize hcu : Go.Lib.cut a3 [120] = cu at HU hcl
      obtain ⟨p, q, ok⟩ := cu
      simp only at HU hcl
      have lp : p.length ≤ 1048576 := by have := hcl.1; omega
      have lq : q.length ≤ 1048576 := by have := hcl.2; omega
      have HB := Aside0.mk (show bkOf a0 a2 a3 a4 x y z = ⟨shN a0, x.toNat, y.toNat, z.toNat, shN a2, shN p, shN q, shN a4⟩ by unfold bkOf; rw [hcu])
      have HCV := Aside0.mk (fun W => Go.Lib.run_convert_string_bytes (P := Tryz.prog) W 9 22 5 (bS [x, y, z]) Tryz.underlying9 Tryz.underlying22 Tryz.underlying5)
      have hAA := run_arr
      have e5 : (((([a0, [x, y, z], a2, a3, a4] : List Bs).length : Nat) : Int) != 5) = false := rfl
      have e3 : ((((bS [x, y, z]).size : Nat) : Int) != 3) = false := rfl
      clear hcl hcu
      rw [HB.out] at HR
      go_enter Tryz.func91, Tryz.ntmps91
      go_wp2_with fail
      generalize World.alloc w _ = W1 at hbx hb0 HT ⊢
      refine (HS.out _ HT.out).mono ?_; rintro _ w1 ⟨_, rfl, hb1, A1, c1, rfl, hc1, hC1⟩
      have HB1 := Aside0.mk (bstep hb0 hb1)
      have HX1 := Aside0.mk (blk_below hbx hb1)
      have HT1 := Aside0.mk (HT.out.below hb1)
      obtain ⟨ad, rfl, d0, d1, d2, d3, d4⟩ := at5 hC1
      clear hb1 hC1 hc1 hbx HT hb0 HS
      go_wp2_with fail
      refine (HU.out _ HT1.out).mono ?_; rintro _ w2 ⟨rfl, hb2⟩
      have HB2 := Aside0.mk (bstep HB1.out hb2)
      have HX2 := Aside0.mk (blk_below HX1.out hb2)
      have HT2 := Aside0.mk (HT1.out.below hb2)
      have e0 := pw_cell_below hb2 d0
      have e1 := pw_cell_below hb2 d1
      have e2 := pw_cell_below hb2 d2
      have e4 := pw_cell_below hb2 d4
      clear d0 d1 d2 d3 d4 HU
      go_wp2_with fail
      have hbd : Below w2.heap.size w2 w2.drew := bdrew (Below.refl _ _)
      have HB3 := Aside0.mk (bstep HB2.out hbd)
      have HX3 := Aside0.mk (blk_below HX2.out hbd)
      have HT3 := Aside0.mk (HT2.out.below hbd)
      have d0 := pw_cell_below hbd e0
      have d1 := pw_cell_below hbd e1
      have d2 := pw_cell_below hbd e2
      have d4 := pw_cell_below hbd e4
      clear hb2 e0 e1 e2 e4 HB1 HB2 HX1 HX2 HT1 HT2
      refine region_HO (G := Ov) 24 (by kernel_rfl) (by kernel_rfl) ?_
      generalize World.drew w2 = wb at HB3 HX3 HT3 d0 d1 d2 d4 ⊢
      clear hbd
      refine HO_take Keep.ov (i := 0) (v := ?_) rfl (by kernel_rfl) (by kernel_rfl) (by kernel_rfl) (by decide) (fun _ _ _ h => h) (fun b' hb' => Or.inl ⟨by kernel_rfl, fun W hW => ?_⟩) ?_
      rotate_left
      · have hW' := hb'.step hW
        go_simp
        with_reducible rfl
      refine HO_take Keep.ov (i := 1) (v := ?_) rfl (by kernel_rfl) (by kernel_rfl) (by kernel_rfl) (by decide) (fun _ _ _ h => h) (fun b' hb' => Or.inl ⟨by kernel_rfl, fun W hW => ?_⟩) ?_
      rotate_left
      · have hW' := hb'.step hW
        go_simp
        with_reducible rfl
      refine HO_take Keep.ov (i := 2) (v := ?_) rfl (by kernel_rfl) (by kernel_rfl) (by kernel_rfl) (by decide) (fun _ _ _ h => h) (fun b' hb' => Or.inl ⟨by kernel_rfl, fun W hW => ?_⟩) ?_
      rotate_left
      · have hW' := hb'.step hW
        have q_0 := pw_cell_below hW' d0
        go_simp
        with_reducible rfl
      refine HO_take Keep.ov (i := 3) (v := .int .i16 (shN a0)) rfl (by kernel_rfl) (by kernel_rfl) (by kernel_rfl) (by decide) (fun _ _ _ h => h) (fun b' hb' => Or.inl ⟨by kernel_rfl, fun W hW => ?_⟩) ?_
      · have hW' := hb'.step hW
        go_simp
        exact (HD.out a0 l0 W (HT3.out.below hW')).mono (fun _ _ h => ⟨h.1, hW.step h.2⟩)
      refine HO_take Keep.ov (i := 4) (v := ?_) rfl (by kernel_rfl) (by kernel_rfl) (by kernel_rfl) (by decide) (fun _ _ _ h => h) (fun b' hb' => Or.inl ⟨by kernel_rfl, fun W hW => ?_⟩) ?_
      rotate_left
      · have hW' := hb'.step hW
        go_simp
        with_reducible rfl
      refine HO_take Keep.ov (i := 5) (v := ?_) rfl (by kernel_rfl) (by kernel_rfl) (by kernel_rfl) (by decide) (fun _ _ _ h => h) (fun b' hb' => Or.inl ⟨by kernel_rfl, fun W hW => ?_⟩) ?_
      rotate_left
      · have hW' := hb'.step hW
        go_simp
        with_reducible rfl
      refine HO_take Keep.ov (i := 6) (v := ?_) rfl (by kernel_rfl) (by kernel_rfl) (by kernel_rfl) (by decide) (fun _ _ _ h => h) (fun b' hb' => Or.inl ⟨by kernel_rfl, fun W hW => ?_⟩) ?_
      rotate_left
      · have hW' := hb'.step hW
        have q_0 := pw_cell_below hW' d1
        go_simp
        with_reducible rfl
      refine HO_take Keep.ov (i := 10) (v := ?_) rfl (by kernel_rfl) (by kernel_rfl) (by kernel_rfl) (by decide) (fun _ _ _ h => h) (fun b' hb' => Or.inl ⟨by kernel_rfl, fun W hW => ?_⟩) ?_
      rotate_left
      · have hW' := hb'.step hW
        go_simp
        with_reducible rfl
      refine HO_take Keep.ov (i := 11) (v := ?_) rfl (by kernel_rfl) (by kernel_rfl) (by kernel_rfl) (by decide) (fun _ _ _ h => h) (fun b' hb' => Or.inl ⟨by kernel_rfl, fun W hW => ?_⟩) ?_
      rotate_left
      · have hW' := hb'.step hW
        go_simp
        with_reducible rfl
      refine HO_take Keep.ov (i := 12) (v := ?_) rfl (by kernel_rfl) (by kernel_rfl) (by kernel_rfl) (by decide) (fun _ _ _ h => h) (fun b' hb' => Or.inl ⟨by kernel_rfl, fun W hW => ?_⟩) ?_
      rotate_left
      · have hW' := hb'.step hW
        have q_0 := pw_cell_below hW' d2
        go_simp
        with_reducible rfl
      refine HO_take Keep.ov (i := 13) (v := .int .i16 (shN a2)) rfl (by kernel_rfl) (by kernel_rfl) (by kernel_rfl) (by decide) (fun _ _ _ h => h) (fun b' hb' => Or.inl ⟨by kernel_rfl, fun W hW => ?_⟩) ?_
      · have hW' := hb'.step hW
        go_simp
        exact (HD.out a2 l2 W (HT3.out.below hW')).mono (fun _ _ h => ⟨h.1, hW.step h.2⟩)
      refine HO_take Keep.ov (i := 14) (v := ?_) rfl (by kernel_rfl) (by kernel_rfl) (by kernel_rfl) (by decide) (fun _ _ _ h => h) (fun b' hb' => Or.inl ⟨by kernel_rfl, fun W hW => ?_⟩) ?_
      rotate_left
      · have hW' := hb'.step hW
        go_simp
        with_reducible rfl
      refine HO_take Keep.ov (i := 15) (v := .int .i16 (shN p)) rfl (by kernel_rfl) (by kernel_rfl) (by kernel_rfl) (by decide) (fun _ _ _ h => h) (fun b' hb' => Or.inl ⟨by kernel_rfl, fun W hW => ?_⟩) ?_
      · have hW' := hb'.step hW
        go_simp
        exact (HD.out p lp W (HT3.out.below hW')).mono (fun _ _ h => ⟨h.1, hW.step h.2⟩)
      refine HO_take Keep.ov (i := 16) (v := ?_) rfl (by kernel_rfl) (by kernel_rfl) (by kernel_rfl) (by decide) (fun _ _ _ h => h) (fun b' hb' => Or.inl ⟨by kernel_rfl, fun W hW => ?_⟩) ?_
      rotate_left
      · have hW' := hb'.step hW
        go_simp
        with_reducible rfl
      refine HO_take Keep.ov (i := 17) (v := .int .i16 (shN q)) rfl (by kernel_rfl) (by kernel_rfl) (by kernel_rfl) (by decide) (fun _ _ _ h => h) (fun b' hb' => Or.inl ⟨by kernel_rfl, fun W hW => ?_⟩) ?_
      · have hW' := hb'.step hW
        go_simp
        exact (HD.out q lq W (HT3.out.below hW')).mono (fun _ _ h => ⟨h.1, hW.step h.2⟩)
      refine HO_take Keep.ov (i := 18) (v := ?_) rfl (by kernel_rfl) (by kernel_rfl) (by kernel_rfl) (by decide) (fun _ _ _ h => h) (fun b' hb' => Or.inl ⟨by kernel_rfl, fun W hW => ?_⟩) ?_
      rotate_left
      · have hW' := hb'.step hW
        go_simp
        with_reducible rfl
      refine HO_take Keep.ov (i := 19) (v := ?_) rfl (by kernel_rfl) (by kernel_rfl) (by kernel_rfl) (by decide) (fun _ _ _ h => h) (fun b' hb' => Or.inl ⟨by kernel_rfl, fun W hW => ?_⟩) ?_
      rotate_left
      · have hW' := hb'.step hW
        go_simp
        with_reducible rfl
      refine HO_take Keep.ov (i := 20) (v := ?_) rfl (by kernel_rfl) (by kernel_rfl) (by kernel_rfl) (by decide) (fun _ _ _ h => h) (fun b' hb' => Or.inl ⟨by kernel_rfl, fun W hW => ?_⟩) ?_
      rotate_left
      · have hW' := hb'.step hW
        have q_0 := pw_cell_below hW' d4
        go_simp
        with_reducible rfl
      refine HO_take Keep.ov (i := 21) (v := .int .i16 (shN a4)) rfl (by kernel_rfl) (by kernel_rfl) (by kernel_rfl) (by decide) (fun _ _ _ h => h) (fun b' hb' => Or.inl ⟨by kernel_rfl, fun W hW => ?_⟩) ?_
      · have hW' := hb'.step hW
        go_simp
        exact (HD.out a4 l4 W (HT3.out.below hW')).mono (fun _ _ h => ⟨h.1, hW.step h.2⟩)
      refine HO_step2 (i := 7) (j := 23) rfl rfl (by kernel_rfl) (by decide) (by decide) (by kernel_rfl) (by kernel_rfl) (fun W hW K hK => ?_) (fun W hW K hK => ?_)
      · have ocv := HCV.out W
        rw [show (bS [x, y, z]).size = 3 from rfl] at ocv
        go_simp
        refine hK _ _ (Go.Lib.bytesWorld_below _ _ _) ?_
        clear hK K
        have m0 : (Go.Lib.bytesWorld W 5 (bS [x, y, z])).cell? ⟨W.heap.size, 0, none⟩ = some (.int .u8 (x.toNat : Int)) := Go.Lib.bytesWorld_cell W 5 (bS [x, y, z]) 0 (by rw [show (bS [x, y, z]).size = 3 from rfl]; omega)
        have m1 : (Go.Lib.bytesWorld W 5 (bS [x, y, z])).cell? ⟨W.heap.size, 1, none⟩ = some (.int .u8 (y.toNat : Int)) := Go.Lib.bytesWorld_cell W 5 (bS [x, y, z]) 1 (by rw [show (bS [x, y, z]).size = 3 from rfl]; omega)
        have m2 : (Go.Lib.bytesWorld W 5 (bS [x, y, z])).cell? ⟨W.heap.size, 2, none⟩ = some (.int .u8 (z.toNat : Int)) := Go.Lib.bytesWorld_cell W 5 (bS [x, y, z]) 2 (by rw [show (bS [x, y, z]).size = 3 from rfl]; omega)
        have HW := Aside0.mk (Ov.step hW (Go.Lib.bytesWorld_below W 5 (bS [x, y, z])))
        clear ocv hW
        generalize Go.Lib.bytesWorld W 5 (bS [x, y, z]) = w7 at m0 m1 m2 HW ⊢
        generalize W.heap.size = g7 at m0 m1 m2 ⊢
        refine HO_take Keep.ov (i := 8) (v := ?_) rfl (by kernel_rfl) (by kernel_rfl) (by kernel_rfl) (by decide) (fun _ _ _ h => h) (fun b' hb' => Or.inl ⟨by kernel_rfl, fun W hW => ?_⟩) ?_
        rotate_left
        · have hW' := hb'.step hW
          go_simp
          with_reducible rfl
        refine HO_take Keep.ov (i := 9) (v := ?_) rfl (by kernel_rfl) (by kernel_rfl) (by kernel_rfl) (by decide) (fun _ _ _ h => h) (fun b' hb' => Or.inl ⟨by kernel_rfl, fun W hW => ?_⟩) ?_
        rotate_left
        · have hW' := hb'.step hW
          have q_0 := pw_cell_below hW' m0
          have q_1 := pw_cell_below hW' m1
          have q_2 := pw_cell_below hW' m2
          go_simp
          with_reducible rfl
        refine HO_take Keep.ov (i := 22) (v := ?_) rfl (by kernel_rfl) (by kernel_rfl) (by kernel_rfl) (by decide) (fun _ _ _ h => h) (fun b' hb' => Or.inl ⟨by kernel_rfl, fun W hW => ?_⟩) ?_
        rotate_left
        · have hW' := hb'.step hW
          go_simp
          with_reducible rfl
        refine HO_step (i := 23) rfl (by kernel_rfl) (by decide) (by kernel_rfl) (fun W2 hW2 K hK => ?_)
        go_simp
        refine hK _ _ (balloc (Below.refl _ _) _) ?_
        clear hK K
        have HY := Aside0.mk (blk_new W2 (.cells #[.int .i16 0, .int .u8 0, .int .u8 0, .int .u8 0, .int .i16 0, .int .i16 0, .int .i16 0, .int .i16 0] 30))
        have HW2 := Aside0.mk (HW.out.step (hW2.step (balloc (Below.refl W2.heap.size W2) (.cells #[.int .i16 0, .int .u8 0, .int .u8 0, .int .u8 0, .int .i16 0, .int .i16 0, .int .i16 0, .int .i16 0] 30))))
        have hgt := Aside0.mk (show w.heap.size < W2.heap.size by have := blk_lt HX3.out; have := HW.out.size; have := hW2.size; omega)
        clear hW2 m0 m1 m2 HW
        generalize World.alloc W2 _ = W3 at HY HW2 ⊢
        generalize W2.heap.size = g8 at HY hgt ⊢
        refine HO_end (by kernel_rfl) (fun W hW => ?_)
        have hx := blk_below (blk_below HX3.out HW2.out) hW
        have hy := blk_below HY.out hW
        have HB4 := Aside0.mk (bstep HB3.out (HW2.out.step hW))
        have HX4 := Aside0.mk hx
        clear hW HY HW2 HX3 HB3 HT3 hx HCV hAA d0 d1 d2 d4
        have c0 := blk_cell hy 0
        have f0 := blk_frozen hy 0
        have c1 := blk_cell hy 1
        have f1 := blk_frozen hy 1
        have c2 := blk_cell hy 2
        have f2 := blk_frozen hy 2
        have c3 := blk_cell hy 3
        have f3 := blk_frozen hy 3
        have c4 := blk_cell hy 4
        have f4 := blk_frozen hy 4
        have c5 := blk_cell hy 5
        have f5 := blk_frozen hy 5
        have c6 := blk_cell hy 6
        have f6 := blk_frozen hy 6
        have c7 := blk_cell hy 7
        have f7 := blk_frozen hy 7
        simp only [List.getElem?_toArray, List.getElem?_cons_zero, List.getElem?_cons_succ] at c0 c1 c2 c3 c4 c5 c6 c7
        go_wp2_with fail
        have hy5 := put8_blk ⟨shN a0, x.toNat, y.toNat, z.toNat, shN a2, shN p, shN q, shN a4⟩ hy
        have HX5 := Aside0.mk (put8_far ⟨shN a0, x.toNat, y.toNat, z.toNat, shN a2, shN p, shN q, shN a4⟩ HX4.out (Nat.ne_of_lt hgt.out))
        have HB5 := Aside0.mk (put8_below ⟨shN a0, x.toNat, y.toNat, z.toNat, shN a2, shN p, shN q, shN a4⟩ HB4.out (Nat.le_of_lt hgt.out))
        clear HB4 HX4 hy c0 c1 c2 c3 c4 c5 c6 c7 f0 f1 f2 f3 f4 f5 f6 f7
        change Code.wp _ _ _ _ (put8 W g8 ⟨shN a0, x.toNat, y.toNat, z.toNat, shN a2, shN p, shN q, shN a4⟩)
        generalize (⟨shN a0, x.toNat, y.toNat, z.toNat, shN a2, shN p, shN q, shN a4⟩ : Bk) = b at HR hy5 HX5 HB5 ⊢
        have hbd : Below (put8 W g8 b).heap.size (put8 W g8 b) (put8 W g8 b).drew := bdrew (Below.refl _ _)
        have hy5 := blk_below hy5 hbd
        have HX5 := Aside0.mk (blk_below HX5.out hbd)
        have HB5 := Aside0.mk (bstep HB5.out hbd)
        clear hbd
        have hKG := kG w g8
        have HVB := Aside0.mk (fun (p : World) => ValidBook_c b p)
        cases hv : vBook b
        · have HK := Aside0.mk (show bkK l = false by rw [HR.out.2, hv]; rfl)
          rw [hv] at HVB
          simp only [Bk.val] at HVB
          clear hv
          refine region_HO (G := KG w g8) 10 (by kernel_rfl) (by kernel_rfl) ?_
          generalize (put8 W g8 b).drew = W5 at hy5 HX5 HB5 ⊢
          refine HO_take hKG (i := 0) (v := ?_) rfl (by kernel_rfl) (by kernel_rfl) (by kernel_rfl) (by decide) (fun _ _ _ h => h) (fun b' hb' => Or.inl ⟨by kernel_rfl, fun W hW => ?_⟩) ?_
          rotate_left
          · have hyW := blk_below (hb'.1 _ hy5) hW
            have HBW := Aside0.mk (bstep (hb'.2 HB5.out) hW)
            have q0 := blk_cell hyW 0
            have q1 := blk_cell hyW 1
            have q2 := blk_cell hyW 2
            have q3 := blk_cell hyW 3
            have q4 := blk_cell hyW 4
            have q5 := blk_cell hyW 5
            have q6 := blk_cell hyW 6
            have q7 := blk_cell hyW 7
            simp only [List.getElem?_toArray, List.getElem?_cons_zero, List.getElem?_cons_succ] at q0 q1 q2 q3 q4 q5 q6 q7
            go_simp
            with_reducible rfl
          refine HO_take hKG (i := 1) (v := ?_) rfl (by kernel_rfl) (by kernel_rfl) (by kernel_rfl) (by decide) (fun _ _ _ h => h) (fun b' hb' => Or.inl ⟨by kernel_rfl, fun W hW => ?_⟩) ?_
          rotate_left
          · have hyW := blk_below (hb'.1 _ hy5) hW
            have HBW := Aside0.mk (bstep (hb'.2 HB5.out) hW)
            have q0 := blk_cell hyW 0
            have q1 := blk_cell hyW 1
            have q2 := blk_cell hyW 2
            have q3 := blk_cell hyW 3
            have q4 := blk_cell hyW 4
            have q5 := blk_cell hyW 5
            have q6 := blk_cell hyW 6
            have q7 := blk_cell hyW 7
            simp only [List.getElem?_toArray, List.getElem?_cons_zero, List.getElem?_cons_succ] at q0 q1 q2 q3 q4 q5 q6 q7
            go_simp
            with_reducible rfl
          refine HO_take hKG (i := 2) (v := .bool false) rfl (by kernel_rfl) (by kernel_rfl) (by kernel_rfl) (by decide) (fun _ _ _ h => h) (fun b' hb' => Or.inl ⟨by kernel_rfl, fun W hW => ?_⟩) ?_
          · have hyW := blk_below (hb'.1 _ hy5) hW
            have HBW := Aside0.mk (bstep (hb'.2 HB5.out) hW)
            have q0 := blk_cell hyW 0
            have q1 := blk_cell hyW 1
            have q2 := blk_cell hyW 2
            have q3 := blk_cell hyW 3
            have q4 := blk_cell hyW 4
            have q5 := blk_cell hyW 5
            have q6 := blk_cell hyW 6
            have q7 := blk_cell hyW 7
            simp only [List.getElem?_toArray, List.getElem?_cons_zero, List.getElem?_cons_succ] at q0 q1 q2 q3 q4 q5 q6 q7
            go_simp
            exact (HVB.out W).mono (fun _ _ h => ⟨h.1, hW.step h.2⟩)
          refine HO_take hKG (i := 3) (v := ?_) rfl (by kernel_rfl) (by kernel_rfl) (by kernel_rfl) (by decide) (fun _ _ _ h => h) (fun b' hb' => Or.inl ⟨by kernel_rfl, fun W hW => ?_⟩) ?_
          rotate_left
          · have hyW := blk_below (hb'.1 _ hy5) hW
            have HBW := Aside0.mk (bstep (hb'.2 HB5.out) hW)
            have q0 := blk_cell hyW 0
            have q1 := blk_cell hyW 1
            have q2 := blk_cell hyW 2
            have q3 := blk_cell hyW 3
            have q4 := blk_cell hyW 4
            have q5 := blk_cell hyW 5
            have q6 := blk_cell hyW 6
            have q7 := blk_cell hyW 7
            simp only [List.getElem?_toArray, List.getElem?_cons_zero, List.getElem?_cons_succ] at q0 q1 q2 q3 q4 q5 q6 q7
            go_simp
            with_reducible rfl
          refine HO_take hKG (i := 4) (v := undef) rfl (by kernel_rfl) (by kernel_rfl) (by kernel_rfl) (by decide) (fun _ _ _ h => h) (fun b' hb' => Or.inr ⟨by kernel_rfl, rfl⟩) ?_
          refine HO_take hKG (i := 5) (v := undef) rfl (by kernel_rfl) (by kernel_rfl) (by kernel_rfl) (by decide) (fun _ _ _ h => h) (fun b' hb' => Or.inr ⟨by kernel_rfl, rfl⟩) ?_
          refine HO_take hKG (i := 6) (v := undef) rfl (by kernel_rfl) (by kernel_rfl) (by kernel_rfl) (by decide) (fun _ _ _ h => h) (fun b' hb' => Or.inr ⟨by kernel_rfl, rfl⟩) ?_
          refine HO_take hKG (i := 7) (v := undef) rfl (by kernel_rfl) (by kernel_rfl) (by kernel_rfl) (by decide) (fun _ _ _ h => h) (fun b' hb' => Or.inr ⟨by kernel_rfl, rfl⟩) ?_
          refine HO_take hKG (i := 8) (v := ?_) rfl (by kernel_rfl) (by kernel_rfl) (by kernel_rfl) (by decide) (fun _ _ _ h => h) (fun b' hb' => Or.inl ⟨by kernel_rfl, fun W hW => ?_⟩) ?_
          rotate_left
          · have hyW := blk_below (hb'.1 _ hy5) hW
            have HBW := Aside0.mk (bstep (hb'.2 HB5.out) hW)
            have q0 := blk_cell hyW 0
            have q1 := blk_cell hyW 1
            have q2 := blk_cell hyW 2
            have q3 := blk_cell hyW 3
            have q4 := blk_cell hyW 4
            have q5 := blk_cell hyW 5
            have q6 := blk_cell hyW 6
            have q7 := blk_cell hyW 7
            simp only [List.getElem?_toArray, List.getElem?_cons_zero, List.getElem?_cons_succ] at q0 q1 q2 q3 q4 q5 q6 q7
            go_simp
            with_reducible rfl
          refine HO_step (i := 9) rfl (by kernel_rfl) (by decide) (by kernel_rfl) (fun W hW K hK => ?_)
          have hx6 := blk_below HX5.out hW
          have hy6 := blk_below hy5 hW
          have HB6 := Aside0.mk (bstep HB5.out hW)
          have c0 := blk_cell hx6 0
          have f0 := blk_frozen hx6 0
          have c1 := blk_cell hx6 1
          have f1 := blk_frozen hx6 1
          have c2 := blk_cell hx6 2
          have f2 := blk_frozen hx6 2
          have c3 := blk_cell hx6 3
          have f3 := blk_frozen hx6 3
          have c4 := blk_cell hx6 4
          have f4 := blk_frozen hx6 4
          have c5 := blk_cell hx6 5
          have f5 := blk_frozen hx6 5
          have c6 := blk_cell hx6 6
          have f6 := blk_frozen hx6 6
          have c7 := blk_cell hx6 7
          have f7 := blk_frozen hx6 7
          simp only [List.getElem?_toArray, List.getElem?_cons_zero, List.getElem?_cons_succ] at c0 c1 c2 c3 c4 c5 c6 c7
          go_simp
          refine hK _ (put8 W w.heap.size b) ⟨fun o ho => ?_, fun hb => put8_below b hb (Nat.le_refl _)⟩ ?_
          · rw [hy6] at ho
            rw [← Option.some.inj ho]
            exact put8_far b hy6 (Nat.ne_of_gt hgt.out)
          clear hK K
          have hz6 := put8_blk b hx6
          have HB7 := Aside0.mk (put8_below b HB6.out (Nat.le_refl _))
          clear HB6 hx6 hy6 c0 c1 c2 c3 c4 c5 c6 c7 f0 f1 f2 f3 f4 f5 f6 f7 hW
          generalize put8 W w.heap.size b = W6 at hz6 HB7 ⊢
          refine HO_end (by kernel_rfl) (fun W7 hW7 => ?_)
          have hx7 := blk_below hz6 hW7
          have HB8 := Aside0.mk (bstep HB7.out hW7)
          have c0 := blk_cell hx7 0
          have f0 := blk_frozen hx7 0
          have c1 := blk_cell hx7 1
          have f1 := blk_frozen hx7 1
          have c2 := blk_cell hx7 2
          have f2 := blk_frozen hx7 2
          have c3 := blk_cell hx7 3
          have f3 := blk_frozen hx7 3
          have c4 := blk_cell hx7 4
          have f4 := blk_frozen hx7 4
          have c5 := blk_cell hx7 5
          have f5 := blk_frozen hx7 5
          have c6 := blk_cell hx7 6
          have f6 := blk_frozen hx7 6
          have c7 := blk_cell hx7 7
          have f7 := blk_frozen hx7 7
          simp only [List.getElem?_toArray, List.getElem?_cons_zero, List.getElem?_cons_succ] at c0 c1 c2 c3 c4 c5 c6 c7
          go_wp2
          exact bodyPost_ret (v := .tuple #[b.val, .bool (false)]) (by simp [results, Tryz.results91, go_sem, c0, c1, c2, c3, c4, c5, c6, c7, f0, f1, f2, f3, f4, f5, f6, f7, Bk.val]) rfl ⟨ret_bk HR.out.1.symm HK.out.symm, HB8.out⟩
        · have HK := Aside0.mk (show bkK l = ((bS (bkT b)).toList == (bS l).toList) by rw [HR.out.2, hv, bS_list, bS_list]; rfl)
          have HVT := Aside0.mk (fun (p : World) (hp : Below w.heap.size w p) => bookText_c b (vB1 hv) p (HT0.out.tab.below hp))
          rw [hv] at HVB
          simp only [Bk.val] at HVB HVT
          clear hv
          refine region_HO (G := KG w g8) 10 (by kernel_rfl) (by kernel_rfl) ?_
          generalize (put8 W g8 b).drew = W5 at hy5 HX5 HB5 ⊢
          refine HO_take hKG (i := 0) (v := ?_) rfl (by kernel_rfl) (by kernel_rfl) (by kernel_rfl) (by decide) (fun _ _ _ h => h) (fun b' hb' => Or.inl ⟨by kernel_rfl, fun W hW => ?_⟩) ?_
          rotate_left
          · have hyW := blk_below (hb'.1 _ hy5) hW
            have HBW := Aside0.mk (bstep (hb'.2 HB5.out) hW)
            have q0 := blk_cell hyW 0
            have q1 := blk_cell hyW 1
            have q2 := blk_cell hyW 2
            have q3 := blk_cell hyW 3
            have q4 := blk_cell hyW 4
            have q5 := blk_cell hyW 5
            have q6 := blk_cell hyW 6
            have q7 := blk_cell hyW 7
            simp only [List.getElem?_toArray, List.getElem?_cons_zero, List.getElem?_cons_succ] at q0 q1 q2 q3 q4 q5 q6 q7
            go_simp
            with_reducible rfl
          refine HO_take hKG (i := 1) (v := ?_) rfl (by kernel_rfl) (by kernel_rfl) (by kernel_rfl) (by decide) (fun _ _ _ h => h) (fun b' hb' => Or.inl ⟨by kernel_rfl, fun W hW => ?_⟩) ?_
          rotate_left
          · have hyW := blk_below (hb'.1 _ hy5) hW
            have HBW := Aside0.mk (bstep (hb'.2 HB5.out) hW)
            have q0 := blk_cell hyW 0
            have q1 := blk_cell hyW 1
            have q2 := blk_cell hyW 2
            have q3 := blk_cell hyW 3
            have q4 := blk_cell hyW 4
            have q5 := blk_cell hyW 5
            have q6 := blk_cell hyW 6
            have q7 := blk_cell hyW 7
            simp only [List.getElem?_toArray, List.getElem?_cons_zero, List.getElem?_cons_succ] at q0 q1 q2 q3 q4 q5 q6 q7
            go_simp
            with_reducible rfl
          refine HO_take hKG (i := 2) (v := .bool true) rfl (by kernel_rfl) (by kernel_rfl) (by kernel_rfl) (by decide) (fun _ _ _ h => h) (fun b' hb' => Or.inl ⟨by kernel_rfl, fun W hW => ?_⟩) ?_
          · have hyW := blk_below (hb'.1 _ hy5) hW
            have HBW := Aside0.mk (bstep (hb'.2 HB5.out) hW)
            have q0 := blk_cell hyW 0
            have q1 := blk_cell hyW 1
            have q2 := blk_cell hyW 2
            have q3 := blk_cell hyW 3
            have q4 := blk_cell hyW 4
            have q5 := blk_cell hyW 5
            have q6 := blk_cell hyW 6
            have q7 := blk_cell hyW 7
            simp only [List.getElem?_toArray, List.getElem?_cons_zero, List.getElem?_cons_succ] at q0 q1 q2 q3 q4 q5 q6 q7
            go_simp
            exact (HVB.out W).mono (fun _ _ h => ⟨h.1, hW.step h.2⟩)
          refine HO_take hKG (i := 3) (v := ?_) rfl (by kernel_rfl) (by kernel_rfl) (by kernel_rfl) (by decide) (fun _ _ _ h => h) (fun b' hb' => Or.inl ⟨by kernel_rfl, fun W hW => ?_⟩) ?_
          rotate_left
          · have hyW := blk_below (hb'.1 _ hy5) hW
            have HBW := Aside0.mk (bstep (hb'.2 HB5.out) hW)
            have q0 := blk_cell hyW 0
            have q1 := blk_cell hyW 1
            have q2 := blk_cell hyW 2
            have q3 := blk_cell hyW 3
            have q4 := blk_cell hyW 4
            have q5 := blk_cell hyW 5
            have q6 := blk_cell hyW 6
            have q7 := blk_cell hyW 7
            simp only [List.getElem?_toArray, List.getElem?_cons_zero, List.getElem?_cons_succ] at q0 q1 q2 q3 q4 q5 q6 q7
            go_simp
            with_reducible rfl
          refine HO_take hKG (i := 4) (v := ?_) rfl (by kernel_rfl) (by kernel_rfl) (by kernel_rfl) (by decide) (fun _ _ _ h => h) (fun b' hb' => Or.inl ⟨by kernel_rfl, fun W hW => ?_⟩) ?_
          rotate_left
          · have hyW := blk_below (hb'.1 _ hy5) hW
            have HBW := Aside0.mk (bstep (hb'.2 HB5.out) hW)
            have q0 := blk_cell hyW 0
            have q1 := blk_cell hyW 1
            have q2 := blk_cell hyW 2
            have q3 := blk_cell hyW 3
            have q4 := blk_cell hyW 4
            have q5 := blk_cell hyW 5
            have q6 := blk_cell hyW 6
            have q7 := blk_cell hyW 7
            simp only [List.getElem?_toArray, List.getElem?_cons_zero, List.getElem?_cons_succ] at q0 q1 q2 q3 q4 q5 q6 q7
            go_simp
            with_reducible rfl
          refine HO_take hKG (i := 5) (v := .string (bS (bkT b))) rfl (by kernel_rfl) (by kernel_rfl) (by kernel_rfl) (by decide) (fun _ _ _ h => h) (fun b' hb' => Or.inl ⟨by kernel_rfl, fun W hW => ?_⟩) ?_
          · have hyW := blk_below (hb'.1 _ hy5) hW
            have HBW := Aside0.mk (bstep (hb'.2 HB5.out) hW)
            have q0 := blk_cell hyW 0
            have q1 := blk_cell hyW 1
            have q2 := blk_cell hyW 2
            have q3 := blk_cell hyW 3
            have q4 := blk_cell hyW 4
            have q5 := blk_cell hyW 5
            have q6 := blk_cell hyW 6
            have q7 := blk_cell hyW 7
            simp only [List.getElem?_toArray, List.getElem?_cons_zero, List.getElem?_cons_succ] at q0 q1 q2 q3 q4 q5 q6 q7
            go_simp
            exact (HVT.out W HBW.out).mono (fun _ _ h => ⟨h.1, hW.step h.2⟩)
          refine HO_take hKG (i := 6) (v := ?_) rfl (by kernel_rfl) (by kernel_rfl) (by kernel_rfl) (by decide) (fun _ _ _ h => h) (fun b' hb' => Or.inl ⟨by kernel_rfl, fun W hW => ?_⟩) ?_
          rotate_left
          · have hyW := blk_below (hb'.1 _ hy5) hW
            have HBW := Aside0.mk (bstep (hb'.2 HB5.out) hW)
            have q0 := blk_cell hyW 0
            have q1 := blk_cell hyW 1
            have q2 := blk_cell hyW 2
            have q3 := blk_cell hyW 3
            have q4 := blk_cell hyW 4
            have q5 := blk_cell hyW 5
            have q6 := blk_cell hyW 6
            have q7 := blk_cell hyW 7
            simp only [List.getElem?_toArray, List.getElem?_cons_zero, List.getElem?_cons_succ] at q0 q1 q2 q3 q4 q5 q6 q7
            go_simp
            with_reducible rfl
          refine HO_take hKG (i := 7) (v := ?_) rfl (by kernel_rfl) (by kernel_rfl) (by kernel_rfl) (by decide) (fun _ _ _ h => h) (fun b' hb' => Or.inl ⟨by kernel_rfl, fun W hW => ?_⟩) ?_
          rotate_left
          · have hyW := blk_below (hb'.1 _ hy5) hW
            have HBW := Aside0.mk (bstep (hb'.2 HB5.out) hW)
            have q0 := blk_cell hyW 0
            have q1 := blk_cell hyW 1
            have q2 := blk_cell hyW 2
            have q3 := blk_cell hyW 3
            have q4 := blk_cell hyW 4
            have q5 := blk_cell hyW 5
            have q6 := blk_cell hyW 6
            have q7 := blk_cell hyW 7
            simp only [List.getElem?_toArray, List.getElem?_cons_zero, List.getElem?_cons_succ] at q0 q1 q2 q3 q4 q5 q6 q7
            go_simp
            with_reducible rfl
          refine HO_take hKG (i := 8) (v := ?_) rfl (by kernel_rfl) (by kernel_rfl) (by kernel_rfl) (by decide) (fun _ _ _ h => h) (fun b' hb' => Or.inl ⟨by kernel_rfl, fun W hW => ?_⟩) ?_
          rotate_left
          · have hyW := blk_below (hb'.1 _ hy5) hW
            have HBW := Aside0.mk (bstep (hb'.2 HB5.out) hW)
            have q0 := blk_cell hyW 0
            have q1 := blk_cell hyW 1
            have q2 := blk_cell hyW 2
            have q3 := blk_cell hyW 3
            have q4 := blk_cell hyW 4
            have q5 := blk_cell hyW 5
            have q6 := blk_cell hyW 6
            have q7 := blk_cell hyW 7
            simp only [List.getElem?_toArray, List.getElem?_cons_zero, List.getElem?_cons_succ] at q0 q1 q2 q3 q4 q5 q6 q7
            go_simp
            with_reducible rfl
          refine HO_step (i := 9) rfl (by kernel_rfl) (by decide) (by kernel_rfl) (fun W hW K hK => ?_)
          have hx6 := blk_below HX5.out hW
          have hy6 := blk_below hy5 hW
          have HB6 := Aside0.mk (bstep HB5.out hW)
          have c0 := blk_cell hx6 0
          have f0 := blk_frozen hx6 0
          have c1 := blk_cell hx6 1
          have f1 := blk_frozen hx6 1
          have c2 := blk_cell hx6 2
          have f2 := blk_frozen hx6 2
          have c3 := blk_cell hx6 3
          have f3 := blk_frozen hx6 3
          have c4 := blk_cell hx6 4
          have f4 := blk_frozen hx6 4
          have c5 := blk_cell hx6 5
          have f5 := blk_frozen hx6 5
          have c6 := blk_cell hx6 6
          have f6 := blk_frozen hx6 6
          have c7 := blk_cell hx6 7
          have f7 := blk_frozen hx6 7
          simp only [List.getElem?_toArray, List.getElem?_cons_zero, List.getElem?_cons_succ] at c0 c1 c2 c3 c4 c5 c6 c7
          go_simp
          refine hK _ (put8 W w.heap.size b) ⟨fun o ho => ?_, fun hb => put8_below b hb (Nat.le_refl _)⟩ ?_
          · rw [hy6] at ho
            rw [← Option.some.inj ho]
            exact put8_far b hy6 (Nat.ne_of_gt hgt.out)
          clear hK K
          have hz6 := put8_blk b hx6
          have HB7 := Aside0.mk (put8_below b HB6.out (Nat.le_refl _))
          clear HB6 hx6 hy6 c0 c1 c2 c3 c4 c5 c6 c7 f0 f1 f2 f3 f4 f5 f6 f7 hW
          generalize put8 W w.heap.size b = W6 at hz6 HB7 ⊢
          refine HO_end (by kernel_rfl) (fun W7 hW7 => ?_)
          have hx7 := blk_below hz6 hW7
          have HB8 := Aside0.mk (bstep HB7.out hW7)
          have c0 := blk_cell hx7 0
          have f0 := blk_frozen hx7 0
          have c1 := blk_cell hx7 1
          have f1 := blk_frozen hx7 1
          have c2 := blk_cell hx7 2
          have f2 := blk_frozen hx7 2
          have c3 := blk_cell hx7 3
          have f3 := blk_frozen hx7 3
          have c4 := blk_cell hx7 4
          have f4 := blk_frozen hx7 4
          have c5 := blk_cell hx7 5
          have f5 := blk_frozen hx7 5
          have c6 := blk_cell hx7 6
          have f6 := blk_frozen hx7 6
          have c7 := blk_cell hx7 7
          have f7 := blk_frozen hx7 7
          simp only [List.getElem?_toArray, List.getElem?_cons_zero, List.getElem?_cons_succ] at c0 c1 c2 c3 c4 c5 c6 c7
          go_wp2
          exact bodyPost_ret (v := .tuple #[b.val, .bool (((bS (bkT b)).toList == (bS l).toList))]) (by simp [results, Tryz.results91, go_sem, c0, c1, c2, c3, c4, c5, c6, c7, f0, f1, f2, f3, f4, f5, f6, f7, Bk.val]) rfl ⟨ret_bk HR.out.1.symm HK.out.symm, HB8.out⟩
      · go_simp
        refine hK _ _ (balloc (Below.refl _ _) _) ?_
        clear hK K
        have hy := blk_new W (.cells #[.int .i16 0, .int .u8 0, .int .u8 0, .int .u8 0, .int .i16 0, .int .i16 0, .int .i16 0, .int .i16 0] 30)
        have HW := Aside0.mk (hW.step (balloc (Below.refl W.heap.size W) (.cells #[.int .i16 0, .int .u8 0, .int .u8 0, .int .u8 0, .int .i16 0, .int .i16 0, .int .i16 0, .int .i16 0] 30)))
        have hgt := Aside0.mk (show w.heap.size < W.heap.size by have := blk_lt HX3.out; have := hW.size; omega)
        clear hW
        generalize World.alloc W _ = W3 at hy HW ⊢
        generalize W.heap.size = g8 at hy hgt ⊢
        refine HO_step (i := 7) rfl (by kernel_rfl) (by decide) (by kernel_rfl) (fun W hW K hK => ?_)
        have ocv := HCV.out W
        rw [show (bS [x, y, z]).size = 3 from rfl] at ocv
        go_simp
        refine hK _ _ (Go.Lib.bytesWorld_below _ _ _) ?_
        clear hK K
        have m0 : (Go.Lib.bytesWorld W 5 (bS [x, y, z])).cell? ⟨W.heap.size, 0, none⟩ = some (.int .u8 (x.toNat : Int)) := Go.Lib.bytesWorld_cell W 5 (bS [x, y, z]) 0 (by rw [show (bS [x, y, z]).size = 3 from rfl]; omega)
        have m1 : (Go.Lib.bytesWorld W 5 (bS [x, y, z])).cell? ⟨W.heap.size, 1, none⟩ = some (.int .u8 (y.toNat : Int)) := Go.Lib.bytesWorld_cell W 5 (bS [x, y, z]) 1 (by rw [show (bS [x, y, z]).size = 3 from rfl]; omega)
        have m2 : (Go.Lib.bytesWorld W 5 (bS [x, y, z])).cell? ⟨W.heap.size, 2, none⟩ = some (.int .u8 (z.toNat : Int)) := Go.Lib.bytesWorld_cell W 5 (bS [x, y, z]) 2 (by rw [show (bS [x, y, z]).size = 3 from rfl]; omega)
        have hW7 := Ov.step hW (Go.Lib.bytesWorld_below W 5 (bS [x, y, z]))
        have HY := Aside0.mk (blk_below hy hW7)
        have HW2 := Aside0.mk (HW.out.step hW7)
        clear ocv hW hW7 hy HW
        generalize Go.Lib.bytesWorld W 5 (bS [x, y, z]) = w7 at m0 m1 m2 HY HW2 ⊢
        generalize W.heap.size = g7 at m0 m1 m2 ⊢
        refine HO_take Keep.ov (i := 8) (v := ?_) rfl (by kernel_rfl) (by kernel_rfl) (by kernel_rfl) (by decide) (fun _ _ _ h => h) (fun b' hb' => Or.inl ⟨by kernel_rfl, fun W hW => ?_⟩) ?_
        rotate_left
        · have hW' := hb'.step hW
          go_simp
          with_reducible rfl
        refine HO_take Keep.ov (i := 9) (v := ?_) rfl (by kernel_rfl) (by kernel_rfl) (by kernel_rfl) (by decide) (fun _ _ _ h => h) (fun b' hb' => Or.inl ⟨by kernel_rfl, fun W hW => ?_⟩) ?_
        rotate_left
        · have hW' := hb'.step hW
          have q_0 := pw_cell_below hW' m0
          have q_1 := pw_cell_below hW' m1
          have q_2 := pw_cell_below hW' m2
          go_simp
          with_reducible rfl
        refine HO_take Keep.ov (i := 22) (v := ?_) rfl (by kernel_rfl) (by kernel_rfl) (by kernel_rfl) (by decide) (fun _ _ _ h => h) (fun b' hb' => Or.inl ⟨by kernel_rfl, fun W hW => ?_⟩) ?_
        rotate_left
        · have hW' := hb'.step hW
          go_simp
          with_reducible rfl
        clear m0 m1 m2
        refine HO_end (by kernel_rfl) (fun W hW => ?_)
        have hx := blk_below (blk_below HX3.out HW2.out) hW
        have hy := blk_below HY.out hW
        have HB4 := Aside0.mk (bstep HB3.out (HW2.out.step hW))
        have HX4 := Aside0.mk hx
        clear hW HY HW2 HX3 HB3 HT3 hx HCV hAA d0 d1 d2 d4
        have c0 := blk_cell hy 0
        have f0 := blk_frozen hy 0
        have c1 := blk_cell hy 1
        have f1 := blk_frozen hy 1
        have c2 := blk_cell hy 2
        have f2 := blk_frozen hy 2
        have c3 := blk_cell hy 3
        have f3 := blk_frozen hy 3
        have c4 := blk_cell hy 4
        have f4 := blk_frozen hy 4
        have c5 := blk_cell hy 5
        have f5 := blk_frozen hy 5
        have c6 := blk_cell hy 6
        have f6 := blk_frozen hy 6
        have c7 := blk_cell hy 7
        have f7 := blk_frozen hy 7
        simp only [List.getElem?_toArray, List.getElem?_cons_zero, List.getElem?_cons_succ] at c0 c1 c2 c3 c4 c5 c6 c7
        go_wp2_with fail
        have hy5 := put8_blk ⟨shN a0, x.toNat, y.toNat, z.toNat, shN a2, shN p, shN q, shN a4⟩ hy
        have HX5 := Aside0.mk (put8_far ⟨shN a0, x.toNat, y.toNat, z.toNat, shN a2, shN p, shN q, shN a4⟩ HX4.out (Nat.ne_of_lt hgt.out))
        have HB5 := Aside0.mk (put8_below ⟨shN a0, x.toNat, y.toNat, z.toNat, shN a2, shN p, shN q, shN a4⟩ HB4.out (Nat.le_of_lt hgt.out))
        clear HB4 HX4 hy c0 c1 c2 c3 c4 c5 c6 c7 f0 f1 f2 f3 f4 f5 f6 f7
        change Code.wp _ _ _ _ (put8 W g8 ⟨shN a0, x.toNat, y.toNat, z.toNat, shN a2, shN p, shN q, shN a4⟩)
        generalize (⟨shN a0, x.toNat, y.toNat, z.toNat, shN a2, shN p, shN q, shN a4⟩ : Bk) = b at HR hy5 HX5 HB5 ⊢
        have hbd : Below (put8 W g8 b).heap.size (put8 W g8 b) (put8 W g8 b).drew := bdrew (Below.refl _ _)
        have hy5 := blk_below hy5 hbd
        have HX5 := Aside0.mk (blk_below HX5.out hbd)
        have HB5 := Aside0.mk (bstep HB5.out hbd)
        clear hbd
        have hKG := kG w g8
        have HVB := Aside0.mk (fun (p : World) => ValidBook_c b p)
        cases hv : vBook b
        · have HK := Aside0.mk (show bkK l = false by rw [HR.out.2, hv]; rfl)
          rw [hv] at HVB
          simp only [Bk.val] at HVB
          clear hv
          refine region_HO (G := KG w g8) 10 (by kernel_rfl) (by kernel_rfl) ?_
          generalize (put8 W g8 b).drew = W5 at hy5 HX5 HB5 ⊢
          refine HO_take hKG (i := 0) (v := ?_) rfl (by kernel_rfl) (by kernel_rfl) (by kernel_rfl) (by decide) (fun _ _ _ h => h) (fun b' hb' => Or.inl ⟨by kernel_rfl, fun W hW => ?_⟩) ?_
          rotate_left
          · have hyW := blk_below (hb'.1 _ hy5) hW
            have HBW := Aside0.mk (bstep (hb'.2 HB5.out) hW)
            have q0 := blk_cell hyW 0
            have q1 := blk_cell hyW 1
            have q2 := blk_cell hyW 2
            have q3 := blk_cell hyW 3
            have q4 := blk_cell hyW 4
            have q5 := blk_cell hyW 5
            have q6 := blk_cell hyW 6
            have q7 := blk_cell hyW 7
            simp only [List.getElem?_toArray, List.getElem?_cons_zero, List.getElem?_cons_succ] at q0 q1 q2 q3 q4 q5 q6 q7
            go_simp
            with_reducible rfl
          refine HO_take hKG (i := 1) (v := ?_) rfl (by kernel_rfl) (by kernel_rfl) (by kernel_rfl) (by decide) (fun _ _ _ h => h) (fun b' hb' => Or.inl ⟨by kernel_rfl, fun W hW => ?_⟩) ?_
          rotate_left
          · have hyW := blk_below (hb'.1 _ hy5) hW
            have HBW := Aside0.mk (bstep (hb'.2 HB5.out) hW)
            have q0 := blk_cell hyW 0
            have q1 := blk_cell hyW 1
            have q2 := blk_cell hyW 2
            have q3 := blk_cell hyW 3
            have q4 := blk_cell hyW 4
            have q5 := blk_cell hyW 5
            have q6 := blk_cell hyW 6
            have q7 := blk_cell hyW 7
            simp only [List.getElem?_toArray, List.getElem?_cons_zero, List.getElem?_cons_succ] at q0 q1 q2 q3 q4 q5 q6 q7
            go_simp
            with_reducible rfl
          refine HO_take hKG (i := 2) (v := .bool false) rfl (by kernel_rfl) (by kernel_rfl) (by kernel_rfl) (by decide) (fun _ _ _ h => h) (fun b' hb' => Or.inl ⟨by kernel_rfl, fun W hW => ?_⟩) ?_
          · have hyW := blk_below (hb'.1 _ hy5) hW
            have HBW := Aside0.mk (bstep (hb'.2 HB5.out) hW)
            have q0 := blk_cell hyW 0
            have q1 := blk_cell hyW 1
            have q2 := blk_cell hyW 2
            have q3 := blk_cell hyW 3
            have q4 := blk_cell hyW 4
            have q5 := blk_cell hyW 5
            have q6 := blk_cell hyW 6
            have q7 := blk_cell hyW 7
            simp only [List.getElem?_toArray, List.getElem?_cons_zero, List.getElem?_cons_succ] at q0 q1 q2 q3 q4 q5 q6 q7
            go_simp
            exact (HVB.out W).mono (fun _ _ h => ⟨h.1, hW.step h.2⟩)
          refine HO_take hKG (i := 3) (v := ?_) rfl (by kernel_rfl) (by kernel_rfl) (by kernel_rfl) (by decide) (fun _ _ _ h => h) (fun b' hb' => Or.inl ⟨by kernel_rfl, fun W hW => ?_⟩) ?_
          rotate_left
          · have hyW := blk_below (hb'.1 _ hy5) hW
            have HBW := Aside0.mk (bstep (hb'.2 HB5.out) hW)
            have q0 := blk_cell hyW 0
            have q1 := blk_cell hyW 1
            have q2 := blk_cell hyW 2
            have q3 := blk_cell hyW 3
            have q4 := blk_cell hyW 4
            have q5 := blk_cell hyW 5
            have q6 := blk_cell hyW 6
            have q7 := blk_cell hyW 7
            simp only [List.getElem?_toArray, List.getElem?_cons_zero, List.getElem?_cons_succ] at q0 q1 q2 q3 q4 q5 q6 q7
            go_simp
            with_reducible rfl
          refine HO_take hKG (i := 4) (v := undef) rfl (by kernel_rfl) (by kernel_rfl) (by kernel_rfl) (by decide) (fun _ _ _ h => h) (fun b' hb' => Or.inr ⟨by kernel_rfl, rfl⟩) ?_
          refine HO_take hKG (i := 5) (v := undef) rfl (by kernel_rfl) (by kernel_rfl) (by kernel_rfl) (by decide) (fun _ _ _ h => h) (fun b' hb' => Or.inr ⟨by kernel_rfl, rfl⟩) ?_
          refine HO_take hKG (i := 6) (v := undef) rfl (by kernel_rfl) (by kernel_rfl) (by kernel_rfl) (by decide) (fun _ _ _ h => h) (fun b' hb' => Or.inr ⟨by kernel_rfl, rfl⟩) ?_
          refine HO_take hKG (i := 7) (v := undef) rfl (by kernel_rfl) (by kernel_rfl) (by kernel_rfl) (by decide) (fun _ _ _ h => h) (fun b' hb' => Or.inr ⟨by kernel_rfl, rfl⟩) ?_
          refine HO_take hKG (i := 8) (v := ?_) rfl (by kernel_rfl) (by kernel_rfl) (by kernel_rfl) (by decide) (fun _ _ _ h => h) (fun b' hb' => Or.inl ⟨by kernel_rfl, fun W hW => ?_⟩) ?_
          rotate_left
          · have hyW := blk_below (hb'.1 _ hy5) hW
            have HBW := Aside0.mk (bstep (hb'.2 HB5.out) hW)
            have q0 := blk_cell hyW 0
            have q1 := blk_cell hyW 1
            have q2 := blk_cell hyW 2
            have q3 := blk_cell hyW 3
            have q4 := blk_cell hyW 4
            have q5 := blk_cell hyW 5
            have q6 := blk_cell hyW 6
            have q7 := blk_cell hyW 7
            simp only [List.getElem?_toArray, List.getElem?_cons_zero, List.getElem?_cons_succ] at q0 q1 q2 q3 q4 q5 q6 q7
            go_simp
            with_reducible rfl
          refine HO_step (i := 9) rfl (by kernel_rfl) (by decide) (by kernel_rfl) (fun W hW K hK => ?_)
          have hx6 := blk_below HX5.out hW
          have hy6 := blk_below hy5 hW
          have HB6 := Aside0.mk (bstep HB5.out hW)
          have c0 := blk_cell hx6 0
          have f0 := blk_frozen hx6 0
          have c1 := blk_cell hx6 1
          have f1 := blk_frozen hx6 1
          have c2 := blk_cell hx6 2
          have f2 := blk_frozen hx6 2
          have c3 := blk_cell hx6 3
          have f3 := blk_frozen hx6 3
          have c4 := blk_cell hx6 4
          have f4 := blk_frozen hx6 4
          have c5 := blk_cell hx6 5
          have f5 := blk_frozen hx6 5
          have c6 := blk_cell hx6 6
          have f6 := blk_frozen hx6 6
          have c7 := blk_cell hx6 7
          have f7 := blk_frozen hx6 7
          simp only [List.getElem?_toArray, List.getElem?_cons_zero, List.getElem?_cons_succ] at c0 c1 c2 c3 c4 c5 c6 c7
          go_simp
          refine hK _ (put8 W w.heap.size b) ⟨fun o ho => ?_, fun hb => put8_below b hb (Nat.le_refl _)⟩ ?_
          · rw [hy6] at ho
            rw [← Option.some.inj ho]
            exact put8_far b hy6 (Nat.ne_of_gt hgt.out)
          clear hK K
          have hz6 := put8_blk b hx6
          have HB7 := Aside0.mk (put8_below b HB6.out (Nat.le_refl _))
          clear HB6 hx6 hy6 c0 c1 c2 c3 c4 c5 c6 c7 f0 f1 f2 f3 f4 f5 f6 f7 hW
          generalize put8 W w.heap.size b = W6 at hz6 HB7 ⊢
          refine HO_end (by kernel_rfl) (fun W7 hW7 => ?_)
          have hx7 := blk_below hz6 hW7
          have HB8 := Aside0.mk (bstep HB7.out hW7)
          have c0 := blk_cell hx7 0
          have f0 := blk_frozen hx7 0
          have c1 := blk_cell hx7 1
          have f1 := blk_frozen hx7 1
          have c2 := blk_cell hx7 2
          have f2 := blk_frozen hx7 2
          have c3 := blk_cell hx7 3
          have f3 := blk_frozen hx7 3
          have c4 := blk_cell hx7 4
          have f4 := blk_frozen hx7 4
          have c5 := blk_cell hx7 5
          have f5 := blk_frozen hx7 5
          have c6 := blk_cell hx7 6
          have f6 := blk_frozen hx7 6
          have c7 := blk_cell hx7 7
          have f7 := blk_frozen hx7 7
          simp only [List.getElem?_toArray, List.getElem?_cons_zero, List.getElem?_cons_succ] at c0 c1 c2 c3 c4 c5 c6 c7
          go_wp2
          exact bodyPost_ret (v := .tuple #[b.val, .bool (false)]) (by simp [results, Tryz.results91, go_sem, c0, c1, c2, c3, c4, c5, c6, c7, f0, f1, f2, f3, f4, f5, f6, f7, Bk.val]) rfl ⟨ret_bk HR.out.1.symm HK.out.symm, HB8.out⟩
        · have HK := Aside0.mk (show bkK l = ((bS (bkT b)).toList == (bS l).toList) by rw [HR.out.2, hv, bS_list, bS_list]; rfl)
          have HVT := Aside0.mk (fun (p : World) (hp : Below w.heap.size w p) => bookText_c b (vB1 hv) p (HT0.out.tab.below hp))
          rw [hv] at HVB
          simp only [Bk.val] at HVB HVT
          clear hv
          refine region_HO (G := KG w g8) 10 (by kernel_rfl) (by kernel_rfl) ?_
          generalize (put8 W g8 b).drew = W5 at hy5 HX5 HB5 ⊢
          refine HO_take hKG (i := 0) (v := ?_) rfl (by kernel_rfl) (by kernel_rfl) (by kernel_rfl) (by decide) (fun _ _ _ h => h) (fun b' hb' => Or.inl ⟨by kernel_rfl, fun W hW => ?_⟩) ?_
          rotate_left
          · have hyW := blk_below (hb'.1 _ hy5) hW
            have HBW := Aside0.mk (bstep (hb'.2 HB5.out) hW)
            have q0 := blk_cell hyW 0
            have q1 := blk_cell hyW 1
            have q2 := blk_cell hyW 2
            have q3 := blk_cell hyW 3
            have q4 := blk_cell hyW 4
            have q5 := blk_cell hyW 5
            have q6 := blk_cell hyW 6
            have q7 := blk_cell hyW 7
            simp only [List.getElem?_toArray, List.getElem?_cons_zero, List.getElem?_cons_succ] at q0 q1 q2 q3 q4 q5 q6 q7
            go_simp
            with_reducible rfl
          refine HO_take hKG (i := 1) (v := ?_) rfl (by kernel_rfl) (by kernel_rfl) (by kernel_rfl) (by decide) (fun _ _ _ h => h) (fun b' hb' => Or.inl ⟨by kernel_rfl, fun W hW => ?_⟩) ?_
          rotate_left
          · have hyW := blk_below (hb'.1 _ hy5) hW
            have HBW := Aside0.mk (bstep (hb'.2 HB5.out) hW)
            have q0 := blk_cell hyW 0
            have q1 := blk_cell hyW 1
            have q2 := blk_cell hyW 2
            have q3 := blk_cell hyW 3
            have q4 := blk_cell hyW 4
            have q5 := blk_cell hyW 5
            have q6 := blk_cell hyW 6
            have q7 := blk_cell hyW 7
            simp only [List.getElem?_toArray, List.getElem?_cons_zero, List.getElem?_cons_succ] at q0 q1 q2 q3 q4 q5 q6 q7
            go_simp
            with_reducible rfl
          refine HO_take hKG (i := 2) (v := .bool true) rfl (by kernel_rfl) (by kernel_rfl) (by kernel_rfl) (by decide) (fun _ _ _ h => h) (fun b' hb' => Or.inl ⟨by kernel_rfl, fun W hW => ?_⟩) ?_
          · have hyW := blk_below (hb'.1 _ hy5) hW
            have HBW := Aside0.mk (bstep (hb'.2 HB5.out) hW)
            have q0 := blk_cell hyW 0
            have q1 := blk_cell hyW 1
            have q2 := blk_cell hyW 2
            have q3 := blk_cell hyW 3
            have q4 := blk_cell hyW 4
            have q5 := blk_cell hyW 5
            have q6 := blk_cell hyW 6
            have q7 := blk_cell hyW 7
            simp only [List.getElem?_toArray, List.getElem?_cons_zero, List.getElem?_cons_succ] at q0 q1 q2 q3 q4 q5 q6 q7
            go_simp
            exact (HVB.out W).mono (fun _ _ h => ⟨h.1, hW.step h.2⟩)
          refine HO_take hKG (i := 3) (v := ?_) rfl (by kernel_rfl) (by kernel_rfl) (by kernel_rfl) (by decide) (fun _ _ _ h => h) (fun b' hb' => Or.inl ⟨by kernel_rfl, fun W hW => ?_⟩) ?_
          rotate_left
          · have hyW := blk_below (hb'.1 _ hy5) hW
            have HBW := Aside0.mk (bstep (hb'.2 HB5.out) hW)
            have q0 := blk_cell hyW 0
            have q1 := blk_cell hyW 1
            have q2 := blk_cell hyW 2
            have q3 := blk_cell hyW 3
            have q4 := blk_cell hyW 4
            have q5 := blk_cell hyW 5
            have q6 := blk_cell hyW 6
            have q7 := blk_cell hyW 7
            simp only [List.getElem?_toArray, List.getElem?_cons_zero, List.getElem?_cons_succ] at q0 q1 q2 q3 q4 q5 q6 q7
            go_simp
            with_reducible rfl
          refine HO_take hKG (i := 4) (v := ?_) rfl (by kernel_rfl) (by kernel_rfl) (by kernel_rfl) (by decide) (fun _ _ _ h => h) (fun b' hb' => Or.inl ⟨by kernel_rfl, fun W hW => ?_⟩) ?_
          rotate_left
          · have hyW := blk_below (hb'.1 _ hy5) hW
            have HBW := Aside0.mk (bstep (hb'.2 HB5.out) hW)
            have q0 := blk_cell hyW 0
            have q1 := blk_cell hyW 1
            have q2 := blk_cell hyW 2
            have q3 := blk_cell hyW 3
            have q4 := blk_cell hyW 4
            have q5 := blk_cell hyW 5
            have q6 := blk_cell hyW 6
            have q7 := blk_cell hyW 7
            simp only [List.getElem?_toArray, List.getElem?_cons_zero, List.getElem?_cons_succ] at q0 q1 q2 q3 q4 q5 q6 q7
            go_simp
            with_reducible rfl
          refine HO_take hKG (i := 5) (v := .string (bS (bkT b))) rfl (by kernel_rfl) (by kernel_rfl) (by kernel_rfl) (by decide) (fun _ _ _ h => h) (fun b' hb' => Or.inl ⟨by kernel_rfl, fun W hW => ?_⟩) ?_
          · have hyW := blk_below (hb'.1 _ hy5) hW
            have HBW := Aside0.mk (bstep (hb'.2 HB5.out) hW)
            have q0 := blk_cell hyW 0
            have q1 := blk_cell hyW 1
            have q2 := blk_cell hyW 2
            have q3 := blk_cell hyW 3
            have q4 := blk_cell hyW 4
            have q5 := blk_cell hyW 5
            have q6 := blk_cell hyW 6
            have q7 := blk_cell hyW 7
            simp only [List.getElem?_toArray, List.getElem?_cons_zero, List.getElem?_cons_succ] at q0 q1 q2 q3 q4 q5 q6 q7
            go_simp
            exact (HVT.out W HBW.out).mono (fun _ _ h => ⟨h.1, hW.step h.2⟩)
          refine HO_take hKG (i := 6) (v := ?_) rfl (by kernel_rfl) (by kernel_rfl) (by kernel_rfl) (by decide) (fun _ _ _ h => h) (fun b' hb' => Or.inl ⟨by kernel_rfl, fun W hW => ?_⟩) ?_
          rotate_left
          · have hyW := blk_below (hb'.1 _ hy5) hW
            have HBW := Aside0.mk (bstep (hb'.2 HB5.out) hW)
            have q0 := blk_cell hyW 0
            have q1 := blk_cell hyW 1
            have q2 := blk_cell hyW 2
            have q3 := blk_cell hyW 3
            have q4 := blk_cell hyW 4
            have q5 := blk_cell hyW 5
            have q6 := blk_cell hyW 6
            have q7 := blk_cell hyW 7
            simp only [List.getElem?_toArray, List.getElem?_cons_zero, List.getElem?_cons_succ] at q0 q1 q2 q3 q4 q5 q6 q7
            go_simp
            with_reducible rfl
          refine HO_take hKG (i := 7) (v := ?_) rfl (by kernel_rfl) (by kernel_rfl) (by kernel_rfl) (by decide) (fun _ _ _ h => h) (fun b' hb' => Or.inl ⟨by kernel_rfl, fun W hW => ?_⟩) ?_
          rotate_left
          · have hyW := blk_below (hb'.1 _ hy5) hW
            have HBW := Aside0.mk (bstep (hb'.2 HB5.out) hW)
            have q0 := blk_cell hyW 0
            have q1 := blk_cell hyW 1
            have q2 := blk_cell hyW 2
            have q3 := blk_cell hyW 3
            have q4 := blk_cell hyW 4
            have q5 := blk_cell hyW 5
            have q6 := blk_cell hyW 6
            have q7 := blk_cell hyW 7
            simp only [List.getElem?_toArray, List.getElem?_cons_zero, List.getElem?_cons_succ] at q0 q1 q2 q3 q4 q5 q6 q7
            go_simp
            with_reducible rfl
          refine HO_take hKG (i := 8) (v := ?_) rfl (by kernel_rfl) (by kernel_rfl) (by kernel_rfl) (by decide) (fun _ _ _ h => h) (fun b' hb' => Or.inl ⟨by kernel_rfl, fun W hW => ?_⟩) ?_
          rotate_left
          · have hyW := blk_below (hb'.1 _ hy5) hW
            have HBW := Aside0.mk (bstep (hb'.2 HB5.out) hW)
            have q0 := blk_cell hyW 0
            have q1 := blk_cell hyW 1
            have q2 := blk_cell hyW 2
            have q3 := blk_cell hyW 3
            have q4 := blk_cell hyW 4
            have q5 := blk_cell hyW 5
            have q6 := blk_cell hyW 6
            have q7 := blk_cell hyW 7
            simp only [List.getElem?_toArray, List.getElem?_cons_zero, List.getElem?_cons_succ] at q0 q1 q2 q3 q4 q5 q6 q7
            go_simp
            with_reducible rfl
          refine HO_step (i := 9) rfl (by kernel_rfl) (by decide) (by kernel_rfl) (fun W hW K hK => ?_)
          have hx6 := blk_below HX5.out hW
          have hy6 := blk_below hy5 hW
          have HB6 := Aside0.mk (bstep HB5.out hW)
          have c0 := blk_cell hx6 0
          have f0 := blk_frozen hx6 0
          have c1 := blk_cell hx6 1
          have f1 := blk_frozen hx6 1
          have c2 := blk_cell hx6 2
          have f2 := blk_frozen hx6 2
          have c3 := blk_cell hx6 3
          have f3 := blk_frozen hx6 3
          have c4 := blk_cell hx6 4
          have f4 := blk_frozen hx6 4
          have c5 := blk_cell hx6 5
          have f5 := blk_frozen hx6 5
          have c6 := blk_cell hx6 6
          have f6 := blk_frozen hx6 6
          have c7 := blk_cell hx6 7
          have f7 := blk_frozen hx6 7
          simp only [List.getElem?_toArray, List.getElem?_cons_zero, List.getElem?_cons_succ] at c0 c1 c2 c3 c4 c5 c6 c7
          go_simp
          refine hK _ (put8 W w.heap.size b) ⟨fun o ho => ?_, fun hb => put8_below b hb (Nat.le_refl _)⟩ ?_
          · rw [hy6] at ho
            rw [← Option.some.inj ho]
            exact put8_far b hy6 (Nat.ne_of_gt hgt.out)
          clear hK K
          have hz6 := put8_blk b hx6
          have HB7 := Aside0.mk (put8_below b HB6.out (Nat.le_refl _))
          clear HB6 hx6 hy6 c0 c1 c2 c3 c4 c5 c6 c7 f0 f1 f2 f3 f4 f5 f6 f7 hW
          generalize put8 W w.heap.size b = W6 at hz6 HB7 ⊢
          refine HO_end (by kernel_rfl) (fun W7 hW7 => ?_)
          have hx7 := blk_below hz6 hW7
          have HB8 := Aside0.mk (bstep HB7.out hW7)
          have c0 := blk_cell hx7 0
          have f0 := blk_frozen hx7 0
          have c1 := blk_cell hx7 1
          have f1 := blk_frozen hx7 1
          have c2 := blk_cell hx7 2
          have f2 := blk_frozen hx7 2
          have c3 := blk_cell hx7 3
          have f3 := blk_frozen hx7 3
          have c4 := blk_cell hx7 4
          have f4 := blk_frozen hx7 4
          have c5 := blk_cell hx7 5
          have f5 := blk_frozen hx7 5
          have c6 := blk_cell hx7 6
          have f6 := blk_frozen hx7 6
          have c7 := blk_cell hx7 7
          have f7 := blk_frozen hx7 7
          simp only [List.getElem?_toArray, List.getElem?_cons_zero, List.getElem?_cons_succ] at c0 c1 c2 c3 c4 c5 c6 c7
          go_wp2
          exact bodyPost_ret (v := .tuple #[b.val, .bool (((bS (bkT b)).toList == (bS l).toList))]) (by simp [results, Tryz.results91, go_sem, c0, c1, c2, c3, c4, c5, c6, c7, f0, f1, f2, f3, f4, f5, f6, f7, Bk.val]) rfl ⟨ret_bk HR.out.1.symm HK.out.symm, HB8.out⟩
    · have HN := Aside0.mk (show rbV l = Bk0 ∧ bkK l = false from ⟨rb_n3 hws h3, (bk_no (rd_none3 hws h3)).2⟩)
      rw [hws] at HS HML
      have e3 : ((((bS a1).size : Nat) : Int) != 3) = true := by rw [bS_size]; simp; omega
      have e5 : (((([a0, a1, a2, a3, a4] : List Bs).length : Nat) : Int) != 5) = false := rfl
      clear hws h3
      go_enter Tryz.func91, Tryz.ntmps91
      go_wp2_with fail
      generalize World.alloc w _ = W1 at hbx hb0 HT ⊢
      refine (HS.out _ HT.out).mono ?_; rintro _ w1 ⟨_, rfl, hb1, A1, c1, rfl, hc1, hC1⟩
      have HB1 := Aside0.mk (bstep hb0 hb1)
      have hx1 := blk_below hbx hb1
      obtain ⟨ad, rfl, d0, d1, d2, d3, d4⟩ := at5 hC1
      clear hb1 hC1 hbx HT
      have c0 := blk_cell hx1 0
      have f0 := blk_frozen hx1 0
      have c1 := blk_cell hx1 1
      have f1 := blk_frozen hx1 1
      have c2 := blk_cell hx1 2
      have f2 := blk_frozen hx1 2
      have c3 := blk_cell hx1 3
      have f3 := blk_frozen hx1 3
      have c4 := blk_cell hx1 4
      have f4 := blk_frozen hx1 4
      have c5 := blk_cell hx1 5
      have f5 := blk_frozen hx1 5
      have c6 := blk_cell hx1 6
      have f6 := blk_frozen hx1 6
      have c7 := blk_cell hx1 7
      have f7 := blk_frozen hx1 7
      simp only [List.getElem?_toArray, List.getElem?_cons_zero, List.getElem?_cons_succ] at c0 c1 c2 c3 c4 c5 c6 c7
      go_wp2
      refine bodyPost_ret (v := .tuple #[Bk0.val, .bool false]) (by simp [results, Tryz.results91, go_sem, c0, c1, c2, c3, c4, c5, c6, c7, f0, f1, f2, f3, f4, f5, f6, f7, Bk.val]) rfl ⟨ret_bk HN.out.1.symm HN.out.2.symm, ?_⟩
      repeat (refine Below.setCell ?_ (by simp) _)
      exact HB1.out
  · have HN := Aside0.mk (show rbV l = Bk0 ∧ bkK l = false from ⟨rb_n hn, (bk_no (rd_none hn)).2⟩)
    have hn' : (((splitL 32 l).length : Int) != 5) = true := by simp; omega
    clear hn
    generalize splitL 32 l = ws at HS HML hn'
    go_enter Tryz.func91, Tryz.ntmps91
    go_wp2_with fail
    generalize World.alloc w _ = W1 at hbx hb0 HT ⊢
    refine (HS.out _ HT.out).mono ?_; rintro _ w1 ⟨_, rfl, hb1, A1, c1_, rfl, hc1, hC1⟩
    have HB1 := Aside0.mk (bstep hb0 hb1)
    have hx1 := blk_below hbx hb1
    clear hb1 hC1 hbx HT
    have c0 := blk_cell hx1 0
    have f0 := blk_frozen hx1 0
    have c1 := blk_cell hx1 1
    have f1 := blk_frozen hx1 1
    have c2 := blk_cell hx1 2
    have f2 := blk_frozen hx1 2
    have c3 := blk_cell hx1 3
    have f3 := blk_frozen hx1 3
    have c4 := blk_cell hx1 4
    have f4 := blk_frozen hx1 4
    have c5 := blk_cell hx1 5
    have f5 := blk_frozen hx1 5
    have c6 := blk_cell hx1 6
    have f6 := blk_frozen hx1 6
    have c7 := blk_cell hx1 7
    have f7 := blk_frozen hx1 7
    simp only [List.getElem?_toArray, List.getElem?_cons_zero, List.getElem?_cons_succ] at c0 c1 c2 c3 c4 c5 c6 c7
    go_wp2
    refine bodyPost_ret (v := .tuple #[Bk0.val, .bool false]) (by simp [results, Tryz.results91, go_sem, c0, c1, c2, c3, c4, c5, c6, c7, f0, f1, f2, f3, f4, f5, f6, f7, Bk.val]) rfl ⟨ret_bk HN.out.1.symm HN.out.2.symm, ?_⟩
    repeat (refine Below.setCell ?_ (by simp) _)
    exact HB1.out
end Go.Proofs.YtgibcacciedobaaGreatDoor
end
section
/- ReadBook of both. -/
namespace Go.Proofs.YtgibcacciedobaaGreatDoor
open Go.RowKit Go.Proofs.YtgibcacciedobaaGreatDoorW.PrintWords Go.Proofs.YtgibcacciedobaaGreatDoorW.PrintMore
set_option linter.unusedVariables false
set_option linter.unusedSimpArgs false
set_option maxRecDepth 100000

noncomputable def bkE (l : Bs) : Int := if bkK l = true then 0 else 5
theorem bk_zero {l : Bs} (h : bkK l = false) : bkV l = Bk0 := by
  by_cases hx : ∃ b, RdB l b
  · obtain ⟨b, hb⟩ := hx
    rw [(bk_ok hb).2] at h
    cases h
  · exact (bk_no (fun b hb => hx ⟨b, hb⟩)).1
theorem ret_bkE {a b : Bk} {c d : Int} (h : a = b) (k : c = d) : Ending.returned (.tuple #[a.val, .int .i64 c]) = .returned (.tuple #[b.val, .int .i64 d]) := by rw [h, k]
set_option maxHeartbeats 4000000 in
theorem ReadBook_c (l : Bs) (hl : l.length ≤ 1048576) (w : World) (ht : Txt w) : Calls Tryz.prog 23 #[.string (bS l)] w (Ret w (.tuple #[(bkV l).val, .int .i64 (bkE l)])) := by
  have hb0 : Below w.heap.size w (w.alloc (.cells #[.int .i16 0, .int .u8 0, .int .u8 0, .int .u8 0, .int .i16 0, .int .i16 0, .int .i16 0, .int .i16 0] 30)) := balloc (Below.refl _ _) _
  have hbx := blk_new w (.cells #[.int .i16 0, .int .u8 0, .int .u8 0, .int .u8 0, .int .i16 0, .int .i16 0, .int .i16 0, .int .i16 0] 30)
  have HR := Aside0.mk (fun W h => readBook_c l hl W h)
  have HT := Aside0.mk (ht.below hb0)
  clear ht
  simp only [Bk.val] at HR
  cases hk : bkK l
  · have HN := Aside0.mk (show bkV l = Bk0 ∧ bkE l = 5 from ⟨bk_zero hk, by unfold bkE; rw [hk]; rfl⟩)
    rw [hk] at HR
    clear hk
    generalize rbV l = b at HR
    go_enter Tryz.func23, Tryz.ntmps23
    go_wp2_with fail
    generalize World.alloc w _ = W1 at hbx hb0 HT ⊢
    refine (HR.out W1 HT.out).mono ?_; rintro _ w1 ⟨rfl, hb1⟩
    have HB1 := Aside0.mk (bstep hb0 hb1)
    have hx1 := blk_alloc (blk_below hbx hb1) (.cells #[.int .i16 b.c, .int .u8 b.m0, .int .u8 b.m1, .int .u8 b.m2, .int .i16 b.v, .int .i16 b.wd, .int .i16 b.h, .int .i16 b.wt] 30)
    clear hb1 hbx HT hb0
    have c0 := blk_cell hx1 0
    have f0 := blk_frozen hx1 0
    have c1 := blk_cell hx1 1
    have f1 := blk_frozen hx1 1
    have c2 := blk_cell hx1 2
    have f2 := blk_frozen hx1 2
    have c3 := blk_cell hx1 3
    have f3 := blk_frozen hx1 3
    have c4 := blk_cell hx1 4
    have f4 := blk_frozen hx1 4
    have c5 := blk_cell hx1 5
    have f5 := blk_frozen hx1 5
    have c6 := blk_cell hx1 6
    have f6 := blk_frozen hx1 6
    have c7 := blk_cell hx1 7
    have f7 := blk_frozen hx1 7
    simp only [List.getElem?_toArray, List.getElem?_cons_zero, List.getElem?_cons_succ] at c0 c1 c2 c3 c4 c5 c6 c7
    go_wp2
    refine bodyPost_ret (v := .tuple #[Bk0.val, .int .i64 5]) (by simp [results, Tryz.results23, go_sem, c0, c1, c2, c3, c4, c5, c6, c7, f0, f1, f2, f3, f4, f5, f6, f7, Bk.val]) rfl ⟨ret_bkE HN.out.1.symm HN.out.2.symm, ?_⟩
    repeat (refine Below.setCell ?_ (by simp) _)
    exact balloc HB1.out _
  · have HN := Aside0.mk (show bkV l = rbV l ∧ bkE l = 0 from ⟨(rb_ok hk).symm, by unfold bkE; rw [hk]; rfl⟩)
    rw [hk] at HR
    clear hk
    generalize rbV l = b at HR HN
    go_enter Tryz.func23, Tryz.ntmps23
    go_wp2_with fail
    generalize World.alloc w _ = W1 at hbx hb0 HT ⊢
    refine (HR.out W1 HT.out).mono ?_; rintro _ w1 ⟨rfl, hb1⟩
    have HB1 := Aside0.mk (bstep hb0 hb1)
    have hx1 := blk_alloc (blk_below hbx hb1) (.cells #[.int .i16 b.c, .int .u8 b.m0, .int .u8 b.m1, .int .u8 b.m2, .int .i16 b.v, .int .i16 b.wd, .int .i16 b.h, .int .i16 b.wt] 30)
    clear hb1 hbx HT hb0
    have c0 := blk_cell hx1 0
    have f0 := blk_frozen hx1 0
    have c1 := blk_cell hx1 1
    have f1 := blk_frozen hx1 1
    have c2 := blk_cell hx1 2
    have f2 := blk_frozen hx1 2
    have c3 := blk_cell hx1 3
    have f3 := blk_frozen hx1 3
    have c4 := blk_cell hx1 4
    have f4 := blk_frozen hx1 4
    have c5 := blk_cell hx1 5
    have f5 := blk_frozen hx1 5
    have c6 := blk_cell hx1 6
    have f6 := blk_frozen hx1 6
    have c7 := blk_cell hx1 7
    have f7 := blk_frozen hx1 7
    simp only [List.getElem?_toArray, List.getElem?_cons_zero, List.getElem?_cons_succ] at c0 c1 c2 c3 c4 c5 c6 c7
    go_wp2
    refine bodyPost_ret (v := .tuple #[b.val, .int .i64 0]) (by simp [results, Tryz.results23, go_sem, c0, c1, c2, c3, c4, c5, c6, c7, f0, f1, f2, f3, f4, f5, f6, f7, Bk.val]) rfl ⟨ret_bkE HN.out.1.symm HN.out.2.symm, ?_⟩
    repeat (refine Below.setCell ?_ (by simp) _)
    exact balloc HB1.out _
end Go.Proofs.YtgibcacciedobaaGreatDoor
end
section
/- ReadBook: the reference's. -/
namespace Go.Proofs.YtgibcacciedobaaGreatDoor
open Go.RowKit Go.Proofs.YtgibcacciedobaaGreatDoorW.PrintWords Go.Proofs.YtgibcacciedobaaGreatDoorW.PrintMore
set_option linter.unusedVariables false
set_option linter.unusedSimpArgs false
set_option maxRecDepth 100000

def gdT (t : Bs) : Prop := nmK t = true ∧ nmV t ≤ 9999
theorem gd_dg {n : Int} (h0 : 0 ≤ n) (h1 : n ≤ 9999) : gdT (dg n) ∧ nmV (dg n) = n := by
  obtain ⟨h2, h3⟩ := nm_some (numL_dg h0 (by omega))
  have : nmV (dg n) = n := by rw [h2]; omega
  exact ⟨⟨h3, by rw [this]; exact h1⟩, this⟩
theorem rs_two {l w0 w2 w3 w4 : Bs} {x y z : UInt8} (h : splitL 32 l = [w0, [x, y, z], w2, w3, w4]) (hn : (splitL 120 w3).length ≠ 2) (b : Bk) : ¬ RdB l b := fun hr => by
  have := (rd_spec_words h hr).1
  rw [this] at hn
  exact hn rfl
theorem rs_words {l w0 w2 w3 w4 p q : Bs} {x y z : UInt8} (h : splitL 32 l = [w0, [x, y, z], w2, w3, w4]) (h3 : splitL 120 w3 = [p, q]) {b : Bk} (hr : RdB l b) :
    (∀ t ∈ [w0, w2, p, q, w4], gdT t) ∧ b = ⟨nmV w0, x.toNat, y.toNat, z.toNat, nmV w2, nmV p, nmV q, nmV w4⟩ := by
  obtain ⟨e3, e0, e2, e4, ex, ey, ez⟩ := rd_spec_words h hr
  rw [h3] at e3
  simp only [List.cons.injEq, and_true] at e3
  obtain ⟨rfl, rfl⟩ := e3
  have hv := vB1 hr.1
  have k0 := gd_dg (n := b.c) hv.c.1 (by have := hv.c.2; omega)
  have k1 := gd_dg (n := b.v) (by have := hv.v; omega) (by have := hv.v; omega)
  have k2 := gd_dg (n := b.wd) (by have := hv.wd; omega) (by have := hv.wd; omega)
  have k3 := gd_dg (n := b.h) (by have := hv.h; omega) (by have := hv.h; omega)
  have k4 := gd_dg (n := b.wt) (by have := hv.wt; omega) (by have := hv.wt; omega)
  subst e0 e2 e4
  refine ⟨?_, ?_⟩
  · intro t ht
    simp only [List.mem_cons, List.mem_nil_iff, or_false] at ht
    rcases ht with rfl | rfl | rfl | rfl | rfl
    · exact k0.1
    · exact k1.1
    · exact k2.1
    · exact k3.1
    · exact k4.1
  · rw [k0.2, k1.2, k2.2, k3.2, k4.2, ex, ey, ez, u8_back hv.m0, u8_back hv.m1, u8_back hv.m2]
theorem rs_num {t : Bs} (h : nmK t = true) : ∃ n, numL t = some n ∧ nmV t = n := by
  unfold nmK at h
  obtain ⟨n, hn⟩ := Option.isSome_iff_exists.1 h
  exact ⟨n, hn, (nm_some hn).1⟩
theorem rs_case {l w0 w2 w3 w4 p q : Bs} {x y z : UInt8} (h : splitL 32 l = [w0, [x, y, z], w2, w3, w4]) (h3 : splitL 120 w3 = [p, q]) (hg : ∀ t ∈ [w0, w2, p, q, w4], gdT t) :
    (vBook ⟨nmV w0, x.toNat, y.toNat, z.toNat, nmV w2, nmV p, nmV q, nmV w4⟩ = true → bkV l = ⟨nmV w0, x.toNat, y.toNat, z.toNat, nmV w2, nmV p, nmV q, nmV w4⟩ ∧ bkK l = true) ∧
    (vBook ⟨nmV w0, x.toNat, y.toNat, z.toNat, nmV w2, nmV p, nmV q, nmV w4⟩ = false → bkV l = Bk0 ∧ bkK l = false) := by
  obtain ⟨n0, m0, e0⟩ := rs_num (hg w0 (by simp)).1
  obtain ⟨n1, m1, e1⟩ := rs_num (hg w2 (by simp)).1
  obtain ⟨n2, m2, e2⟩ := rs_num (hg p (by simp)).1
  obtain ⟨n3, m3, e3⟩ := rs_num (hg q (by simp)).1
  obtain ⟨n4, m4, e4⟩ := rs_num (hg w4 (by simp)).1
  have ht := rd_spec h h3 m0 m1 m2 m3 m4
  rw [e0, e1, e2, e3, e4]
  refine ⟨fun hv => bk_ok ⟨hv, ht⟩, fun hv => bk_no (fun b hb => ?_)⟩
  have := (rs_words h h3 hb).2
  rw [e0, e1, e2, e3, e4] at this
  rw [← this, hb.1] at hv
  cases hv
theorem at2 {a0 a1 : Bs} {w : World} {A : Option Addr} (h : Kd.string.C w A 2 ([a0, a1].map bS)) :
    ∃ ad, A = some ad ∧ w.cell? ad = some (.string (bS a0)) ∧ w.cell? ⟨ad.block, ad.off + 1, none⟩ = some (.string (bS a1)) := by
  obtain ⟨ad, x0, rfl, h0, e0⟩ := at_str (ws := [a0, a1]) h 0 (by decide) rfl
  obtain ⟨d1, x1, k1, h1, e1⟩ := at_str (ws := [a0, a1]) h 1 (by decide) rfl
  cases k1
  have h0 := h0.out; have h1 := h1.out
  cases h0; cases h1
  exact ⟨ad, rfl, e0, e1⟩
theorem two {α : Type} {l : List α} (h : l.length = 2) : ∃ a0 a1, l = [a0, a1] := by
  match l, h with
  | [a0, a1], _ => exact ⟨a0, a1, rfl⟩
def nmCs (ts : List Bs) (k : Nat) : Array Value := ((ts.take k).map (fun t => Value.int .i64 (nmV t)) ++ List.replicate (ts.length - k) (Value.int .i64 0)).toArray
theorem nmCs_set {ts : List Bs} {k : Nat} {x : Bs} (h : ts[k]? = some x) : (nmCs ts k).setIfInBounds k (.int .i64 (nmV x)) = nmCs ts (k + 1) := by
  have hk := (List.getElem?_eq_some_iff.1 h).1
  unfold nmCs
  rw [List.setIfInBounds_toArray]
  congr 1
  have hl : ((ts.take k).map (fun t => Value.int .i64 (nmV t))).length = k := by rw [List.length_map, List.length_take]; omega
  rw [take_snoc h, List.map_append, List.set_append_right _ _ (by omega), hl, Nat.sub_self]
  obtain ⟨m, hm⟩ : ∃ m, ts.length - k = m + 1 := ⟨ts.length - k - 1, by omega⟩
  rw [hm, List.replicate_succ, List.set_cons_zero, show ts.length - (k + 1) = m by omega, List.append_assoc]
  rfl
theorem nmCs_at {ts : List Bs} {k : Nat} {x : Bs} (h : ts[k]? = some x) : (nmCs ts k)[k]? = some (.int .i64 0) := by
  have hk := (List.getElem?_eq_some_iff.1 h).1
  unfold nmCs
  have hl : ((ts.take k).map (fun t => Value.int .i64 (nmV t))).length = k := by rw [List.length_map, List.length_take]; omega
  rw [List.getElem?_toArray, List.getElem?_append_right (by omega), hl, Nat.sub_self, List.getElem?_replicate, if_pos (by omega)]
theorem gdT_i {t : Bs} (h : gdT t) : (0 ≤ nmV t ∧ nmV t ≤ 9999) ∧ IntKind.i16.wrap (nmV t) = nmV t := by
  have h0 : 0 ≤ nmV t := by unfold nmV; omega
  exact ⟨⟨h0, h.2⟩, i16_low ⟨h0, by have := h.2; omega⟩⟩
/-- Five texts stored over a row. -/
def put5 (W : World) (g : Nat) (a b c d e : Bs) : World := ((((W.setCell ⟨g, 0, none⟩ (.string (bS a))).setCell ⟨g, 1, none⟩ (.string (bS b))).setCell ⟨g, 2, none⟩ (.string (bS c))).setCell ⟨g, 3, none⟩ (.string (bS d))).setCell ⟨g, 4, none⟩ (.string (bS e))
def strCs (ts : List Bs) : Array Value := (ts.map (fun t => Value.string (bS t))).toArray
theorem put5_blk {W : World} {g : Nat} {t : TypeId} {z0 z1 z2 z3 z4 : Value} (a b c d e : Bs) (h : W.heap[g]? = some (.cells #[z0, z1, z2, z3, z4] t (0, 0))) : (put5 W g a b c d e).heap[g]? = some (.cells (strCs [a, b, c, d, e]) t (0, 0)) := by
  unfold put5
  have h7 := blk_set (blk_set (blk_set (blk_set (blk_set h 0 (.string (bS a))) 1 (.string (bS b))) 2 (.string (bS c))) 3 (.string (bS d))) 4 (.string (bS e))
  simpa only [List.setIfInBounds_toArray, List.set_cons_zero, List.set_cons_succ, strCs, List.map_cons, List.map_nil] using h7
theorem put5_below {w0 W : World} {n g : Nat} (a b c d e : Bs) (h : Below n w0 W) (hg : n ≤ g) : Below n w0 (put5 W g a b c d e) := by
  unfold put5
  exact Below.setCell (Below.setCell (Below.setCell (Below.setCell (Below.setCell h (p := ⟨g, 0, none⟩) hg _) (p := ⟨g, 1, none⟩) hg _) (p := ⟨g, 2, none⟩) hg _) (p := ⟨g, 3, none⟩) hg _) (p := ⟨g, 4, none⟩) hg _
theorem strCs_at {ts : List Bs} {k : Nat} {x : Bs} (h : ts[k]? = some x) : (strCs ts)[k]? = some (.string (bS x)) := by
  unfold strCs
  rw [List.getElem?_toArray, List.getElem?_map, h]
  rfl
/-- A mark stored over a book's. -/
def put3m (W : World) (g : Nat) (x y z : UInt8) : World := ((W.setCell ⟨g, 1, none⟩ (.int .u8 x.toNat)).setCell ⟨g, 2, none⟩ (.int .u8 y.toNat)).setCell ⟨g, 3, none⟩ (.int .u8 z.toNat)
theorem put3m_blk {W : World} {g : Nat} {t : TypeId} {z0 z1 z2 z3 z4 z5 z6 z7 : Value} (x y z : UInt8) (h : W.heap[g]? = some (.cells #[z0, z1, z2, z3, z4, z5, z6, z7] t (0, 0))) :
    (put3m W g x y z).heap[g]? = some (.cells #[z0, .int .u8 x.toNat, .int .u8 y.toNat, .int .u8 z.toNat, z4, z5, z6, z7] t (0, 0)) := by
  unfold put3m
  have h7 := blk_set (blk_set (blk_set h 1 (.int .u8 x.toNat)) 2 (.int .u8 y.toNat)) 3 (.int .u8 z.toNat)
  simpa only [List.setIfInBounds_toArray, List.set_cons_zero, List.set_cons_succ] using h7
theorem put3m_far {W : World} {g g' : Nat} {t : TypeId} {cs : Array Value} (x y z : UInt8) (h : W.heap[g']? = some (.cells cs t (0, 0))) (hg : g' ≠ g) : (put3m W g x y z).heap[g']? = some (.cells cs t (0, 0)) :=
  blk_far (blk_far (blk_far h (p := ⟨g, 1, none⟩) hg _) (p := ⟨g, 2, none⟩) hg _) (p := ⟨g, 3, none⟩) hg _
theorem put3m_below {w W : World} {g : Nat} (x y z : UInt8) (h : Below w.heap.size w W) (hg : w.heap.size ≤ g) : Below w.heap.size w (put3m W g x y z) := by
  unfold put3m
  exact Below.setCell (Below.setCell (Below.setCell h (p := ⟨g, 1, none⟩) hg _) (p := ⟨g, 2, none⟩) hg _) (p := ⟨g, 3, none⟩) hg _
end Go.Proofs.YtgibcacciedobaaGreatDoor
end
section
/- Texts of lists of books, in plain Lean: lines. -/
namespace Go.Proofs.YtgibcacciedobaaGreatDoor
open Go.RowKit Go.Proofs.YtgibcacciedobaaGreatDoorW.PrintWords Go.Proofs.YtgibcacciedobaaGreatDoorW.PrintMore
set_option linter.unusedVariables false
set_option linter.unusedSimpArgs false
set_option maxRecDepth 100000

/-- Lines, each ended by a newline. -/
def lnT : List Bs → Bs
  | [] => []
  | w :: r => w ++ 10 :: lnT r
theorem lnT_append (a b : List Bs) : lnT (a ++ b) = lnT a ++ lnT b := by
  induction a with
  | nil => rfl
  | cons w r ih => simp [lnT, ih]
theorem lnT_snoc (a : List Bs) (w : Bs) : lnT (a ++ [w]) = lnT a ++ (w ++ [10]) := by rw [lnT_append]; simp [lnT]
/-- Each text is lines, and a rest. -/
theorem lines_of : ∀ l : Bs, ∃ (ws : List Bs) (a : Bs), l = lnT ws ++ a ∧ (10 : UInt8) ∉ a ∧ (∀ w, w ∈ ws → (10 : UInt8) ∉ w) ∧ splitL 10 l = ws ++ [a] ∧ l.count 10 = ws.length
  | [] => ⟨[], [], rfl, by simp, by simp, rfl, rfl⟩
  | x :: l => by
    obtain ⟨ws, a, h1, h2, h3, h4, h5⟩ := lines_of l
    by_cases hx : x = 10
    · subst hx
      refine ⟨[] :: ws, a, by rw [h1]; rfl, h2, ?_, ?_, ?_⟩
      · intro w hw
        rcases List.mem_cons.1 hw with rfl | hw
        · simp
        · exact h3 w hw
      · rw [splitL, if_pos rfl, h4]; rfl
      · rw [List.count_cons_self, h5]; rfl
    · cases ws with
      | nil =>
        refine ⟨[], x :: a, by rw [h1]; rfl, ?_, by simp, ?_, ?_⟩
        · intro hm
          rcases List.mem_cons.1 hm with e | hm
          · exact hx e.symm
          · exact h2 hm
        · rw [splitL, if_neg hx, h4]; rfl
        · rw [List.count_cons_of_ne hx, h5]
      | cons w r =>
        refine ⟨(x :: w) :: r, a, by rw [h1]; rfl, h2, ?_, ?_, ?_⟩
        · intro v hv
          rcases List.mem_cons.1 hv with rfl | hv
          · intro hm
            rcases List.mem_cons.1 hm with e | hm
            · exact hx e.symm
            · exact h3 w (by simp) hm
          · exact h3 v (by simp [hv])
        · rw [splitL, if_neg hx, h4]; rfl
        · rw [List.count_cons_of_ne hx, h5]; rfl
theorem lnT_split {ws : List Bs} (h : ∀ w, w ∈ ws → (10 : UInt8) ∉ w) : splitL 10 (lnT ws) = ws ++ [[]] := by
  induction ws with
  | nil => rfl
  | cons w r ih => rw [lnT, splitL_cons _ (h w (by simp)), ih (fun v hv => h v (by simp [hv]))]; rfl
theorem bkT_no {b : Bk} (h : VB1 b) : (10 : UInt8) ∉ bkT b := by
  rw [bkT_eq]
  simp only [List.mem_append, List.mem_singleton, not_or]
  have hk : (10 : UInt8) ∉ mkB b := fun hm => absurd (mkB_small h hm).1 (by decide)
  repeat' apply And.intro
  all_goals first | exact not_dig (by decide) | exact hk | decide
/-- The text of a list. -/
def lsT (L : List Bk) : Bs := lnT (L.map bkT)
/-- A text is that of a list. -/
def RdLs (l : Bs) (L : List Bk) : Prop := L.length ≤ 60 ∧ (∀ b, b ∈ L → vBook b = true) ∧ splitL 10 l = L.map bkT ++ [[]]
theorem map_bkT_inj : ∀ {L M : List Bk}, (∀ b, b ∈ L → vBook b = true) → (∀ b, b ∈ M → vBook b = true) → L.map bkT = M.map bkT → L = M
  | [], [], _, _, _ => rfl
  | [], _ :: _, _, _, h => by cases h
  | _ :: _, [], _, _, h => by cases h
  | a :: L, b :: M, h1, h2, h => by
    simp only [List.map_cons, List.cons.injEq] at h
    rw [RdB.unique (l := bkT b) ⟨h1 a (by simp), h.1⟩ ⟨h2 b (by simp), rfl⟩, map_bkT_inj (fun x hx => h1 x (by simp [hx])) (fun x hx => h2 x (by simp [hx])) h.2]
theorem RdLs.unique {l : Bs} {L M : List Bk} (h : RdLs l L) (k : RdLs l M) : L = M := map_bkT_inj h.2.1 k.2.1 (List.append_cancel_right (h.2.2.symm.trans k.2.2))
theorem rdLs_self {L : List Bk} (hn : L.length ≤ 60) (h : ∀ b, b ∈ L → vBook b = true) : RdLs (lsT L) L :=
  ⟨hn, h, lnT_split (fun w hw => by obtain ⟨b, hb, rfl⟩ := List.mem_map.1 hw; exact bkT_no (vB1 (h b hb)))⟩
/-- How a list is read. -/
def LsR (l : Bs) (L : List Bk) (n err : Int) : Prop := (n = 0 ∧ RdLs l L) ∨ (n = err ∧ L = [] ∧ ∀ M, ¬ RdLs l M)
theorem LsR.unique {l : Bs} {L M : List Bk} {n m err : Int} (h : LsR l L n err) (h' : LsR l M m err) : L = M ∧ n = m := by
  rcases h with ⟨h1, h2⟩ | ⟨h1, h2, h3⟩ <;> rcases h' with ⟨k1, k2⟩ | ⟨k1, k2, k3⟩
  · exact ⟨h2.unique k2, by rw [h1, k1]⟩
  · exact absurd h2 (k3 _)
  · exact absurd k2 (h3 _)
  · exact ⟨by rw [h2, k2], by rw [h1, k1]⟩
theorem ls_ok {l : Bs} {L : List Bk} (h : splitL 10 l = L.map bkT ++ [[]]) (hn : L.length ≤ 60) (hv : ∀ b, b ∈ L → vBook b = true) (err : Int) : LsR l L 0 err := .inl ⟨rfl, hn, hv, h⟩
theorem ls_bad {l : Bs} {ws : List Bs} {a : Bs} (h : splitL 10 l = ws ++ [a]) (h' : a ≠ [] ∨ 60 < ws.length ∨ ∃ w, w ∈ ws ∧ ∀ b, ¬ RdB w b) (err : Int) : LsR l [] err err := by
  refine .inr ⟨rfl, rfl, fun M hM => ?_⟩
  obtain ⟨h1, h2, h3⟩ := hM
  rw [h] at h3
  obtain ⟨e1, e2⟩ := List.append_inj' h3 rfl
  simp only [List.cons.injEq, and_true] at e2
  rcases h' with h' | h' | ⟨w, hw, hb⟩
  · exact h' e2
  · rw [e1, List.length_map] at h'
    omega
  · rw [e1] at hw
    obtain ⟨b, hb1, hb2⟩ := List.mem_map.1 hw
    exact hb b ⟨h2 b hb1, hb2⟩
theorem lnT_len {k : Nat} : ∀ {ws : List Bs}, (∀ w, w ∈ ws → w.length ≤ k) → (lnT ws).length ≤ (k + 1) * ws.length
  | [], _ => by simp [lnT]
  | w :: r, h => by
    have h1 := h w (by simp)
    have h2 := lnT_len (k := k) (ws := r) (fun v hv => h v (by simp [hv]))
    rw [lnT, List.length_append, List.length_cons, List.length_cons, Nat.mul_add]
    omega
theorem lsT_len {L : List Bk} (hn : L.length ≤ 60) (h : ∀ b, b ∈ L → vBook b = true) : (lsT L).length ≤ 1860 := by
  have := lnT_len (k := 30) (ws := L.map bkT) (fun w hw => by obtain ⟨b, hb, rfl⟩ := List.mem_map.1 hw; exact bkT_len (vB1 (h b hb)))
  rw [List.length_map] at this
  unfold lsT
  omega
end Go.Proofs.YtgibcacciedobaaGreatDoor
end
section
/- ReadBooks: the reference's. -/
namespace Go.Proofs.YtgibcacciedobaaGreatDoor
open Go.RowKit Go.Proofs.YtgibcacciedobaaGreatDoorW.PrintWords Go.Proofs.YtgibcacciedobaaGreatDoorW.PrintMore
set_option linter.unusedVariables false
set_option linter.unusedSimpArgs false
set_option maxRecDepth 100000

open Classical in
/-- The list of a text, none if there is none. -/
noncomputable def lsV (l : Bs) : List Bk := if h : ∃ L, RdLs l L then Classical.choose h else []
open Classical in
noncomputable def lsE (l : Bs) : Int := if ∃ L, RdLs l L then 0 else 5
theorem ls_of {l : Bs} {L : List Bk} {n : Int} (h : LsR l L n 5) : lsV l = L ∧ lsE l = n := by
  rcases h with ⟨rfl, h⟩ | ⟨rfl, rfl, h⟩
  · have hx : ∃ L, RdLs l L := ⟨L, h⟩
    unfold lsV lsE
    rw [dif_pos hx, if_pos hx]
    exact ⟨(Classical.choose_spec hx).unique h, rfl⟩
  · have hx : ¬ ∃ L, RdLs l L := fun ⟨L, hL⟩ => h L hL
    unfold lsV lsE
    rw [dif_neg hx, if_neg hx]
    exact ⟨rfl, rfl⟩
theorem lsV_len (l : Bs) : (lsV l).length ≤ 60 := by
  by_cases h : ∃ L, RdLs l L
  · obtain ⟨L, hL⟩ := h
    rw [(ls_of (.inl ⟨rfl, hL⟩)).1]
    exact hL.1
  · rw [(ls_of (.inr ⟨rfl, rfl, fun L hL => h ⟨L, hL⟩⟩)).1]
    exact Nat.zero_le _
theorem bk_yes {l : Bs} (h : bkK l = true) : RdB l (bkV l) := by
  by_cases hx : ∃ b, RdB l b
  · obtain ⟨b, hb⟩ := hx
    rw [(bk_ok hb).1]
    exact hb
  · rw [(bk_no (fun b hb => hx ⟨b, hb⟩)).2] at h
    cases h
theorem bk_none {l : Bs} (h : bkK l = false) (b : Bk) : ¬ RdB l b := fun hb => by
  rw [(bk_ok hb).2] at h
  cases h
theorem ls_all {l : Bs} {ws : List Bs} (h : splitL 10 l = ws ++ [[]]) (hn : ws.length ≤ 60) (hk : ∀ w, w ∈ ws → bkK w = true) : lsV l = ws.map bkV ∧ lsE l = 0 := by
  refine ls_of (ls_ok ?_ (by rw [List.length_map]; exact hn) ?_ 5)
  · rw [h, List.map_map]
    congr 1
    exact (map_back (fun w hw => (bk_yes (hk w hw)).2)).symm
  · intro b hb
    obtain ⟨w, hw, rfl⟩ := List.mem_map.1 hb
    exact (bk_yes (hk w hw)).1
theorem bkE_no {l : Bs} (h : bkK l = false) : bkE l = 5 := by unfold bkE; rw [h]; rfl
theorem bkE_yes {l : Bs} (h : bkK l = true) : bkE l = 0 := by unfold bkE; rw [h]; rfl
theorem tupB_no {w W W' : World} {l : Bs} (h : lsV l = [] ∧ lsE l = 5) (hb : Below w.heap.size w W) (hW : W' = W.alloc (.cells #[] 30)) : TupB w (lsV l) (lsE l) (.tuple #[.slice (some ⟨W.heap.size, 0, none⟩) 0 0, .int .i64 5]) W' := by
  rw [h.1, h.2, hW]
  exact ⟨_, rfl, R_zero kBk 30 W w.heap.size (fun _ => True) hb.size trivial⟩
theorem wrap64_low {n : Int} (h0 : 0 ≤ n) (h1 : n ≤ 9223372036854775807) : wrap64 n = n := by
  unfold wrap64
  omega
end Go.Proofs.YtgibcacciedobaaGreatDoor
end
section
/- A range over a function whose own state lies in a box: the rounds of a loop; A region in a round's frame that draws its order, walked as outside of a round; strings.Lines: the iterator; readLines: the program's reading of a list's lines; ReadBooks: the program's. -/
namespace Go.Proofs.YtgibcacciedobaaGreatDoor
open Go.RowKit Go.Proofs.YtgibcacciedobaaGreatDoorW.PrintWords Go.Proofs.YtgibcacciedobaaGreatDoorW.PrintMore
set_option linter.unusedVariables false
set_option linter.unusedSimpArgs false
set_option maxRecDepth 100000

section
variable {F : Fence} {n : Nat} {P : Program}
/-- How a round of such a loop ends: on, or by a return. -/
def boxPost {α : Type} (B b : Nat) (Inv : List α → World → Prop) (Out : World → Prop) (xs : List α) (W : World) : Exit → Act → World → Prop
  | .normal, _, W' => KeepsFrom B W W' ∧ W'.heap[b]? = W.heap[b]? ∧ Inv xs W'
  | .ret, _, W' => KeepsFrom B W W' ∧ Out W'
  | _, _, _ => False
/-- An iterator with a box b: what it asks of the rounds, and what it gives. Its own steps are St. -/
def BoxSeq {α : Type} (F : Fence) (n : Nat) (P : Program) (gf : Nat) (lb : Array Value) (encs : α → Array Value) (b : Nat) (St : World → World → Prop) (Sp S : List α → Prop) (w : World) : Prop :=
  ∀ (l : Nat) (J : List α → World → Prop) (Jx : World → Prop) (W : World), Below w.heap.size w W → (∀ pre W1 W2, J pre W1 → St W1 W2 → J pre W2) →
    (∀ pre x W1, Sp (pre ++ [x]) → J pre W1 → YieldAt F (n - 1) P l (encs x) W1 fun e W' => (e = .returned (.bool true) ∧ J (pre ++ [x]) W' ∧ W'.heap[b]? = W1.heap[b]?) ∨ (e = .returned (.bool false) ∧ Jx W')) →
    J [] W → CallsIn F n P gf (#[.func (.yield l) #[] #[]] ++ lb) W fun e W' => (∃ v, e = .returned v) ∧ ((∃ xs, S xs ∧ J xs W') ∨ Jx W')
theorem range_box {α : Type} {g : Operand} {ps : Array Tmp} {assign body : Code} {Q : Exit → Act → World → Prop} {a : Act} {w : World}
    (hro : F.round = none) (h1 : 1 ≤ n) {gf : Nat} {lb : Array Value} (hg : a.eval g = .func (.func gf) #[] lb) (hFg : F.fn gf) (eg : ∀ args w, (callFunc gf args).run P w = .ok (.enter gf args) w)
    {encs : α → Array Value} (hps : ∀ x, (encs x).size = ps.size) {b : Nat} {St : World → World → Prop} {Sp S : List α → Prop} (hit : BoxSeq F (n - 1) P gf lb encs b St Sp S w) (hb : b < w.heap.size)
    (Inv : List α → World → Prop) (Out : World → Prop)
    (hInv : ∀ pre W l o o', Inv pre W → w.heap.size ≤ l → W.heap[l]? = some o → o.isCells = false → Inv pre (W.putObj l o'))
    (hOut : ∀ W l o o', Out W → w.heap.size ≤ l → W.heap[l]? = some o → o.isCells = false → Out (W.putObj l o'))
    (hSt : ∀ pre W W', Inv pre W → St W W' → Inv pre W') (hSk : ∀ W W' k o, St W W' → w.heap.size ≤ k → W.heap[k]? = some o → o.isCells = false → W'.heap[k]? = some o)
    (h0 : ∀ o o', Inv [] ((w.alloc o).alloc o')) (a₁ : α → Act)
    (hassign : ∀ (l : Nat) (x : α) (W : World) (K : Act → World → Prop), K (a₁ x) W →
      assign.wpIn (F.inRound l) (n - 1 - 1) P (Exit.then K (fun _ _ _ => False)) { tmps := (ps.zip (encs x)).foldl (fun t (p, v) => t.setIfInBounds p v) a.tmps, defers := [] } W)
    (hbody : ∀ (l : Nat) (pre : List α) (x : α) (W : World), Sp (pre ++ [x]) → Inv pre W → body.wpIn (F.inRound l) (n - 1 - 1) P (boxPost w.heap.size b Inv Out (pre ++ [x]) W) (a₁ x) W)
    (hdone : ∀ (D : Nat) (xs : List α) (W : World), w.heap.size ≤ D → S xs → Inv xs W → W.heap[D]? = some (.deferred (some [])) → Q .normal { a with defers := { target := .collected D, args := #[] } :: a.defers } W)
    (hstop : ∀ (D : Nat) (W : World), w.heap.size ≤ D → Out W → W.heap[D]? = some (.deferred (some [])) → Code.ret.wpIn F n P Q { a with defers := { target := .collected D, args := #[] } :: a.defers } W) :
    (Code.rangeFunc g ps assign body).wpIn F n P Q a w := by
  refine wpIn_rangeFunc fun fn hfn => ?_
  rw [hro]
  -- the two blocks of the loop
  let R : LoopState → Option Code → Loop := fun st pe => { state := st, pending := pe, fn := fn, tmps := a.tmps, params := ps, assign := assign, body := body, defers := w.heap.size }
  have hsz : (w.alloc (.deferred (some []))).heap.size = w.heap.size + 1 := World.size_alloc _ _
  have bB : Below w.heap.size w ((w.alloc (.deferred (some []))).alloc (.loop (R .ready none))) := balloc (balloc (Below.refl _ _) _) _
  have kL : ((w.alloc (.deferred (some []))).alloc (.loop (R .ready none))).heap[w.heap.size + 1]? = some (.loop (R .ready none)) := by
    have := World.alloc_heap_new (w.alloc (.deferred (some []))) (.loop (R .ready none))
    rwa [hsz] at this
  have kD : ((w.alloc (.deferred (some []))).alloc (.loop (R .ready none))).heap[w.heap.size]? = some (.deferred (some [])) :=
    (Below.heap_alloc _ _ _ (by rw [hsz]; omega)).trans (World.alloc_heap_new w _)
  have hi0 := h0 (.deferred (some [])) (.loop (R .ready none))
  generalize hW0 : (w.alloc (.deferred (some []))).alloc (.loop (R .ready none)) = W0 at bB kL kD hi0
  refine ⟨w.heap.size + 1, [{ target := .collected w.heap.size, args := #[] }], W0, { target := .fn (.func gf) lb, args := #[.func (.yield (w.heap.size + 1)) #[] #[]] }, W0, gf, #[.func (.yield (w.heap.size + 1)) #[] #[]] ++ lb, W0, ?_, ?_, ?_, ?_, fun _ => h1, ?_⟩
  · rw [← hW0]; exact run_enterLoop_outer _ _ _ _ _
  · simp only [resolve, hg]
    simp [go_sem]
  · intro f' hf'
    simp [Target.leads] at hf'
    subst hf'
    exact hFg
  · simp [invoke, go_sem, eg]
  · refine (hit (w.heap.size + 1) (fun pre W => Inv pre W ∧ W.heap[w.heap.size + 1]? = some (.loop (R .ready none)) ∧ W.heap[w.heap.size]? = some (.deferred (some [])))
      (fun W => Out W ∧ W.heap[w.heap.size + 1]? = some (.loop (R .done (some .ret))) ∧ W.heap[w.heap.size]? = some (.deferred (some []))) W0 bB ?_ ?_ ⟨hi0, kL, kD⟩).mono ?_
    · rintro pre W1 W2 ⟨hi, hl, hd⟩ hs
      exact ⟨hSt _ _ _ hi hs, hSk _ _ _ _ hs (by omega) hl rfl, hSk _ _ _ _ hs (Nat.le_refl _) hd rfl⟩
    · rintro pre x W hsp ⟨hi, hl, hd⟩
      have hlt : w.heap.size + 1 < W.heap.size := (Array.getElem?_eq_some_iff.1 hl).1
      refine ⟨fn, _, assign, body, run_yield (P := P) (args := encs x) hl (hps x), roundIn_of_wpIn hfn (hassign _ x W _ ⟨_, run_beginRound hl rfl, ?_⟩)⟩
      have l2 : (W.putObj (w.heap.size + 1) (.loop (R .busy none))).heap[w.heap.size + 1]? = some (.loop (R .busy none)) := World.putObj_heap_same hlt
      have d2 : (W.putObj (w.heap.size + 1) (.loop (R .busy none))).heap[w.heap.size]? = some (.deferred (some [])) := (World.putObj_heap_other (by omega)).trans hd
      have b2 : (W.putObj (w.heap.size + 1) (.loop (R .busy none))).heap[b]? = W.heap[b]? := World.putObj_heap_other (by omega)
      refine wpIn_mono (hbody _ pre x _ hsp (hInv _ _ _ _ _ hi (by omega) hl rfl)) ?_
      -- the record is laid down
      have fin : ∀ (jump : Option Code) (W3 : World), KeepsFrom w.heap.size (W.putObj (w.heap.size + 1) (.loop (R .busy none))) W3 → W3.heap[w.heap.size + 1]? = some (.loop (R .busy none)) ∧ (W3.putObj (w.heap.size + 1) (.loop (R (if jump.isNone then .ready else .done) jump))).heap[w.heap.size + 1]? = some (.loop (R (if jump.isNone then .ready else .done) jump)) ∧
          (W3.putObj (w.heap.size + 1) (.loop (R (if jump.isNone then .ready else .done) jump))).heap[w.heap.size]? = some (.deferred (some [])) := fun jump W3 hk => by
        have l3 := hk.same _ _ (by omega) l2 rfl
        exact ⟨l3, World.putObj_heap_same (Array.getElem?_eq_some_iff.1 l3).1, (World.putObj_heap_other (by omega)).trans (hk.same _ _ (Nat.le_refl _) d2 rfl)⟩
      intro e a3 W3 hp
      cases e with
      | normal =>
        obtain ⟨hk, hb3, hi3⟩ := hp
        obtain ⟨l3, l4, d4⟩ := fin none W3 hk
        exact ⟨_, _, run_endRound (P := P) none l3, .inl ⟨rfl, ⟨hInv _ _ _ _ _ hi3 (by omega) l3 rfl, l4, d4⟩, (World.putObj_heap_other (by omega)).trans (hb3.trans b2)⟩⟩
      | ret =>
        obtain ⟨hk, ho3⟩ := hp
        obtain ⟨l3, l4, d4⟩ := fin (some .ret) W3 hk
        exact ⟨_, _, run_endRound (P := P) (some .ret) l3, .inr ⟨rfl, hOut _ _ _ _ ho3 (by omega) l3 rfl, l4, d4⟩⟩
      | exit id => exact hp.elim
      | goto t => exact hp.elim
      | panic ch => exact hp.elim
      | outgrown => exact hp.elim
    · rintro e W2 ⟨⟨v, rfl⟩, (⟨xs, hS, hi, hl, hd⟩ | ⟨ho, hl, hd⟩)⟩
      · exact ⟨none, _, run_endLoop (P := P) hl (by simp [R]), hdone _ xs _ (Nat.le_refl _) hS (hInv _ _ _ _ _ hi (by omega) hl rfl) ((World.putObj_heap_other (by omega)).trans hd)⟩
      · exact ⟨some .ret, _, run_endLoop (P := P) hl (by simp [R]), hstop _ _ (Nat.le_refl _) (hOut _ _ _ _ ho (by omega) hl rfl) ((World.putObj_heap_other (by omega)).trans hd)⟩
end
section
variable {P : Program} {ops : Array Oper} {Q : Exit → Act → World → Prop} {l n : Nat}
theorem rows_inRound {row : String} {args : Array Value} {w : World} {R : Value → World → Prop} (h : Rows P row args w R) : RowsIn (Fence.wide.inRound l) n P row args w R :=
  fun c cs _ => let ⟨v, w', r, s⟩ := h c cs; ⟨v, w', r, stepsIn_wide.2 s⟩
theorem op_inRound {o : Oper} (hd : ∀ c, o.op ≠ .defer c) {a : Act} {w : World} {K : Act → World → Prop} (h : o.wp P a w K Q) : o.wpIn (Fence.wide.inRound l) n P a w K Q := by
  refine ⟨fun _ _ => trivial, ?_⟩
  rw [Oper.semAt_plain _ _ _ hd]
  unfold Oper.wp at h
  generalize (execOp a.eval o).run P w = r at *
  cases r with
  | ok x w' =>
    cases x <;> simp only [Oper.upon, Oper.uponIn] at h ⊢
    case value => exact h
    case skip => exact h
    case defer => exact h
    case enter =>
      refine ⟨(fun hh => by cases hh), ?_⟩
      refine (callsIn_wide (n := n - 1)).2 ?_
      refine Calls.mono h ?_
      intro e w'' he
      cases e <;> exact he
    case row => exact ⟨(fun hh => by cases hh), rows_inRound h⟩
  | halt x w' => cases x <;> simp only [Oper.upon, Oper.uponIn] at h ⊢ <;> exact h
theorem ops_inRound (hd : ∀ (i : Nat) (o : Oper) c, ops[i]? = some o → o.op ≠ .defer c) (hQ : ¬ LetsOut Q) : ∀ (L : List Nat) (a : Act) (w : World), wpOps P ops Q L a w → wpOpsIn (Fence.wide.inRound l) n P ops Q L a w
  | [], _, _, h => h
  | i :: rest, a, w, h => by
    simp only [wpOps, wpOpsIn] at h ⊢
    cases ho : ops[i]? with
    | none => simp only [ho] at h ⊢; exact ops_inRound hd hQ rest a w h
    | some o =>
      simp only [ho] at h ⊢
      split
      · rename_i hw
        simp only [hw, if_true] at h
        rcases h with h | h
        · exact Oper.wpIn_mono (fun a w => ops_inRound hd hQ rest a w) (op_inRound (hd i o · ho) h)
        · exact absurd h.2 hQ
      · rename_i hw
        simp only [hw] at h
        exact ⟨fun _ _ => trivial, ops_inRound hd hQ rest _ w h⟩
theorem region_inRound {id : Nat} {a : Act} {w : World} (hm : P.follows .mixedOrders = true) (hd : ∀ (i : Nat) (o : Oper) c, ops[i]? = some o → o.op ≠ .defer c) (hQ : ¬ LetsOut Q)
    (h : wpAny P .any ops Q ops.size (Array.replicate ops.size false) a w.drew) : (Code.region id ops true).wpIn (Fence.wide.inRound l) n P Q a w :=
  wpIn_region_draw fun t => by
    simp only [Region.schedule, hm, Bool.true_or, if_true]
    exact ops_inRound hd hQ _ _ _ (wpAny_sound ops.size t _ a _ h)
/-- No operation is a defer statement. -/
def noDeferB (l : List Oper) : Bool := l.all (fun o => match o.op with | .defer _ => false | _ => true)
theorem noDeferB_spec {l : List Oper} (h : noDeferB l = true) : ∀ (i : Nat) (o : Oper) c, l.toArray[i]? = some o → o.op ≠ .defer c := by
  intro i o c hi he
  have h1 := List.all_eq_true.1 h o (by rw [List.getElem?_toArray] at hi; exact List.mem_of_getElem? hi)
  rw [he] at h1
  cases h1
theorem regionIn_HO {id r m : Nat} {a : Act} {w : World} {l : List Oper} {G : World → World → Prop} (n : Nat) (hm : P.follows .mixedOrders = true) (hd : noDeferB l = true) (hQ : ¬ LetsOut Q) (hB : sideB .any l n = true) (H : HO P .any l G Q n n (Array.replicate l.toArray.size false) a w.drew) : (Code.region id l.toArray true).wpIn (Fence.wide.inRound r) m P Q a w := by
  simp only [sideB, Bool.and_eq_true, decide_eq_true_eq] at hB
  obtain ⟨⟨⟨hsel, hn⟩, hs⟩, hc⟩ := hB
  have h := H ⟨by simp, fun j oj _ hl => (by rw [getD_replicate_false] at hl; cases hl), fun t _ ht => getD_in (by simpa using ht) (getD_replicate_false _ _)⟩
  refine region_inRound hm (noDeferB_spec hd) hQ ?_
  have e2 : (l.drop n).length = l.toArray.size - n := by simp
  have := headO_any (g := l.toArray.size - n) (fun listed a' w' hL => by
    have := wpAny_of_seq (md := .any) (Q' := Q) (l.drop n) n listed a' w' (fun j => by simp [List.getElem?_drop]) (by rw [e2]; exact hL.1) (hL.2 w' (Below.refl _ _))
    rwa [e2] at this) _ _ _ w.drew h
  rw [show n + (l.toArray.size - n) = l.toArray.size by have := hn; omega] at this
  exact this
end
open Go.Shelf
attribute [local go_sem] Oper.semAt_some
theorem ix_line {x : Bs} (h : (10 : UInt8) ∉ x) (r : Bs) : Go.Lib.indexByte (x ++ 10 :: r) 10 = (x.length : Int) := by
  induction x with
  | nil => simp [Go.Lib.indexByte]
  | cons y x ih =>
    have hy : y ≠ 10 := fun e => h (by simp [e])
    have ih := ih (fun hm => h (by simp [hm]))
    simp only [List.cons_append, Go.Lib.indexByte, ih]
    simp [hy]
/-- What is left in the iterator's box. -/
def boxLeft (b : Nat) (W : World) : Nat := match W.heap[b]? with
  | some (Obj.cells cs _ _) => match cs[0]? with
    | some (Value.string s) => s.size
    | _ => 0
  | _ => 0
theorem boxLeft_eq {b : Nat} {W : World} {s : ByteArray} {t : TypeId} (h : W.heap[b]? = some (.cells #[.string s] t (0, 0))) : boxLeft b W = s.size := by
  unfold boxLeft
  rw [h]
  rfl
/-- The iterator's own steps. -/
def LnSt (b : Nat) (W1 W2 : World) : Prop := ∃ v, W2 = (W1.setCell ⟨b, 0, none⟩ v).drew
/-- A line, without its newline. -/
abbrev LnW (ws : List Bs) := { t : Bs // t ∈ ws }
set_option maxHeartbeats 1000000 in
theorem lines_box (n : Nat) (hn : 1 ≤ n) (b : Nat) (ws Ws : List Bs) (hin : ∀ x, x ∈ ws → x ∈ Ws) (hws : ∀ x, x ∈ ws → (10 : UInt8) ∉ x) (hlen : (lnT ws).length ≤ 1048576) (w : World) (hb : w.heap[b]? = some (.cells #[.string (bS (lnT ws))] 9 (0, 0))) :
    BoxSeq Fence.wide n Tryz.prog 189 #[.pointer (some ⟨b, 0, none⟩)] (fun x : LnW Ws => #[.string (bS (x.1 ++ [10]))]) b (LnSt b) (fun p => p.length ≤ ws.length) (fun xs => xs.map (·.1) = ws) w := by
  intro l J Jx W hW hSt hY h0
  have hbW := blk_below hb hW
  refine callsIn_of_wp Tryz.func189 rfl trivial ?_ rfl
  simp only [Tryz.ntmps189, List.size_toArray, List.length_cons, List.length_nil, Nat.reduceAdd, Nat.reduceSub, Array.replicate_succ, Array.replicate_zero, List.push_toArray, List.append_toArray, List.nil_append, List.cons_append]
  gi_wp2
  gi_loopw [3] (fun p wr => ∃ (pre : List (LnW Ws)) (rest : List Bs), ws = pre.map (·.1) ++ rest ∧ wr.heap[b]? = some (.cells #[.string (bS (lnT rest))] 9 (0, 0)) ∧ J pre wr)
    (fun p wr => boxLeft b wr)
  case atStart => exact ⟨[], ws, rfl, hbW, h0⟩
  case round =>
    obtain ⟨pre, rest, hx, hbr, hJ⟩ := hrel
    have c0 := blk_cell hbr 0
    have f0 := blk_frozen hbr 0
    simp only [List.getElem?_toArray, List.getElem?_cons_zero] at c0
    cases rest with
    | nil =>
      have e0 : (bS (lnT [])).size = 0 := rfl
      gi_wp2
      go_end0
      exact ⟨⟨_, rfl⟩, .inl ⟨_, by rw [hx, List.append_nil], hJ⟩⟩
    | cons x rest =>
      have hxm : x ∈ ws := by rw [hx]; simp
      have hx10 := hws x hxm
      have HI := Aside0.mk ((Tryz.strings_IndexByte (bS (lnT (x :: rest))) 10 wr).mono (fun e w' h => show e = .returned (.int .i64 (x.length : Int)) ∧ w' = wr by
        rw [bS_toList, show (Int.toNat 10).toUInt8 = 10 from rfl] at h
        rw [show lnT (x :: rest) = x ++ 10 :: lnT rest from rfl, ix_line hx10] at h
        exact h))
      have hsz : (bS (lnT (x :: rest))).size = x.length + 1 + (lnT rest).length := by rw [bS_size]; simp [lnT]; omega
      have hl1 : x.length + 1 + (lnT rest).length ≤ 1048576 := by
        have : (lnT ws).length = (lnT (pre.map (·.1))).length + (lnT (x :: rest)).length := by rw [hx, lnT_append, List.length_append]
        have h2 : (lnT (x :: rest)).length = x.length + 1 + (lnT rest).length := by simp [lnT]; omega
        omega
      have e9 : lnT (x :: rest) = (x ++ [10]) ++ lnT rest := by simp [lnT]
      have ex1 : (bS (lnT (x :: rest))).extract 0 (x.length + 1) = bS (x ++ [10]) := by
        rw [ext_bS, e9, List.drop_zero]
        exact congrArg bS (List.take_left' (by simp))
      have ex2 : (bS (lnT (x :: rest))).extract (x.length + 1) (x.length + 1 + (lnT rest).length) = bS (lnT rest) := by
        rw [ext_bS, e9, List.take_of_length_le (by simp; omega)]
        exact congrArg bS (List.drop_left' (by simp))
      clear e9
      have HM := Aside0.mk (boxLeft_eq hbr)
      have HSZ := Aside0.mk hsz
      generalize lnT (x :: rest) = y at *
      have k0 : (0 : Int) ≤ (x.length : Int) := by omega
      have k1 : (x.length : Int) + 1 ≤ ((bS y).size : Int) := by omega
      have k2 : 0 < (bS y).size := by omega
      gi_wp2_with (refine ⟨trivial, ?_⟩; gi_at_call 190; refine (callsIn_wide.2 HI.out).mono ?_; rintro _ w2 ⟨rfl, rfl⟩)
      gi_region
      have hJ3 := hSt _ _ ((w2.setCell ⟨b, 0, none⟩ (.string (bS (lnT rest)))).drew) hJ ⟨_, rfl⟩
      have hb3 : ((w2.setCell ⟨b, 0, none⟩ (.string (bS (lnT rest)))).drew).heap[b]? = some (.cells #[.string (bS (lnT rest))] 9 (0, 0)) := by
        have h7 := blk_set hbr 0 (.string (bS (lnT rest)))
        simp only [List.setIfInBounds_toArray, List.set_cons_zero] at h7
        exact h7
      clear hJ hbr c0 f0 HI
      have HM2 := Aside0.mk (show boxLeft b w2 = (bS y).size from HM.out)
      generalize World.drew _ = w3 at hJ3 hb3 ⊢
      obtain ⟨fn, tmps, assign, body, hy, hR⟩ := hY _ (⟨x, hin x hxm⟩ : LnW Ws) w3 (by rw [hx]; simp) hJ3
      gi_wp2
      refine hR.mono ?_
      rintro e W4 (⟨rfl, hJ4, hk⟩ | ⟨rfl, hJx⟩)
      · have hb4 := hk.trans hb3
        gi_wp2
        go_roundw
        case rel => exact ⟨pre ++ [⟨x, hin x hxm⟩], rest, by simp [hx], hb4, hJ4⟩
        case measure => rw [boxLeft_eq hb4, HM2.out, HSZ.out, bS_size]; omega
      · gi_wp2
        refine bodyPost_ret (results_none rfl _ _ _) rfl ?_
        exact ⟨⟨_, rfl⟩, .inr hJx⟩
set_option maxHeartbeats 1000000 in
theorem Lines_in (F : Fence) (n : Nat) (h5 : F.fn 157) (hro : F.round = none) (s : ByteArray) (w : World) :
    CallsIn F n Tryz.prog 157 #[.string s] w fun e w' => e = .returned (.func (.func 189) #[] #[.pointer (some ⟨w.heap.size, 0, none⟩)]) ∧ w' = w.alloc (.cells #[.string s] 9) := by
  refine callsIn_of_wp Tryz.func157 rfl h5 ?_ hro
  simp only [Tryz.ntmps157, List.size_toArray, List.length_cons, List.length_nil, Nat.reduceAdd, Nat.reduceSub, Array.replicate_succ, Array.replicate_zero, List.push_toArray, List.append_toArray, List.nil_append, List.cons_append]
  gi_wp2
  go_ret
  exact ⟨rfl, rfl⟩
open Go.Shelf
attribute [local go_sem] Oper.semAt_some
section
variable {F : Fence} {m : Nat} {ops : Array Oper} {rest : List Oper} {o : Oper} {a : Act} {Q : Exit → Act → World → Prop}
/-- append(out, b) in a round, beside boxes: what lies from B on but below G is no row's block. -/
theorem bk_appIn {w0 W : World} {B G : Nat} (hgd : o.guard = none) (s x : Operand) (ho : o.op = .call { callee := .builtin .append, args := #[s, x], argTypes := #[24, 24] }) (v : Value) (xs : List Bk) (b : Bk)
    (hs : a.eval s = v) (hx : a.eval x = .slice (some ⟨W.heap.size, 0, none⟩) 1 1) (HO : kBk.R 30 W B (fun k => G ≤ k) v xs) (HB : Below B w0 W) (hB : B ≤ W.heap.size) (hG : G ≤ W.heap.size) (hl : xs.length ≤ 2097152)
    (h : ∀ v1 w1, kBk.R 30 w1 B (fun k => G ≤ k) v1 (xs ++ [b]) → Below B w0 w1 → (∀ k, k < G → w1.heap[k]? = W.heap[k]?) → KeepsFrom G W w1 → wpListIn F m Tryz.prog ops Q rest (a.put o.dst v1) w1) :
    wpListIn F m Tryz.prog ops Q (o :: rest) a (W.alloc (.cells (Bk.cells b).toArray 30)) := by
  have HB' := Kd.R_bound HO
  obtain ⟨i0, hi, hz0, hz1, hz2⟩ := info_parts info_bk
  obtain ⟨h0, inner, hown, hr⟩ := HO
  refine wpListIn_plain hgd fun K hK' => ?_
  obtain ⟨v', w', hrun, r1, r2, r3, r4⟩ := run_append_own_at (P := Tryz.prog) (w := W.alloc (.cells (Bk.cells b).toArray 30)) B 24 o.type 30 i0 _ 8 14 Tryz.underlying24 hi hz0 hz1 hz2 rfl (by decide) v xs.length inner (hown.alloc _) ⟨W.heap.size, 0, none⟩ 1 1 (Bk.cells b) (by rfl)
    (by simpa using World.news_of_block (cs := (Bk.cells b).toArray) (t := 30) (fr := (0, 0)) (heap_alloc_new W (.cells (Bk.cells b).toArray 30))) (by simp [Bk.cells, Value.oneCell']) (by simp only [maxLen]; omega) (by omega) (by simp; omega)
  have hg : W.grownBy w' v.ownBlock := World.grownBy.trans (World.grownBy_alloc W _ _) r2
  have hR : kBk.R 30 w' B (fun k => G ≤ k) v' (xs ++ [b]) := Kd.R_appended (okp := fun _ => False) (cs := Bk.cells b) (p := b) h0 hr rfl (fun _ h => h.elim) (fun k hk => by omega) r1 hg (r4.imp id (fun h => ⟨_, h, by simp⟩))
  have hB2 : Below B w0 w' := (HB.alloc hB _).grown r2 (by simp; omega) (own_base hown)
  have hk1 : ∀ k, k < G → w'.heap[k]? = W.heap[k]? := fun k hk => hg.block k (by omega) (fun he => by have := h0 k he.symm; omega)
  have hk2 : KeepsFrom G W w' := ⟨hg.size, fun k ob _ hk ho' => (hg.block k (blk_lt hk) (fun he => by
    obtain ⟨_, _, _, q, _, cells, hc⟩ := HB'.1 k he.symm
    rw [hk] at hc
    rw [Option.some.inj hc] at ho'
    cases ho')).trans hk⟩
  unfold Oper.wpIn
  refine ⟨?_, ?_⟩
  · simp [Oper.about, ho, resolve, Target.leads, Sem.run_pure]
  · rw [Oper.semAt_plain F _ _ (by rw [ho]; intro c hc'; cases hc')]
    simp [execOp, ho, resolve, invoke, builtin, hs, hx, hrun, Result.andThen]
    exact hK' _ _ (h v' w' hR hB2 hk1 hk2)
end
theorem ln_mem {ws : List Bs} {t : Bs} (h : t ∈ ws) : t.length ≤ (lnT ws).length := by
  induction ws with
  | nil => cases h
  | cons x r ih =>
    rw [lnT, List.length_append, List.length_cons]
    rcases List.mem_cons.1 h with rfl | h
    · omega
    · have := ih h
      omega
/-- Between two rounds. -/
structure LnI (w : World) (ws : List Bs) (pre : List (LnW ws)) (W : World) : Prop where
  bx : W.heap[w.heap.size]? = some (.cells #[.func (.func 91) #[] #[]] 107 (0, 0))
  r1 : W.heap[w.heap.size + 1]? = some (.cells #[.slice none 0 0] 24 (0, 0))
  r2 : W.heap[w.heap.size + 2]? = some (.cells #[.bool false] 4 (0, 0))
  out : ∃ v, W.heap[w.heap.size + 3]? = some (.cells #[v] 24 (0, 0)) ∧ kBk.R 30 W w.heap.size (fun k => w.heap.size + 5 ≤ k) v (pre.map (fun t => bkV t.1))
  hb : Below w.heap.size w W
  ok : ∀ t, t ∈ pre → bkK t.1 = true
  sz : w.heap.size + 5 ≤ W.heap.size
/-- A line has been refused. -/
structure LnO (w : World) (ws : List Bs) (W : World) : Prop where
  r1 : W.heap[w.heap.size + 1]? = some (.cells #[.slice none 0 0] 24 (0, 0))
  r2 : W.heap[w.heap.size + 2]? = some (.cells #[.bool false] 4 (0, 0))
  hb : Below w.heap.size w W
  bad : ∃ t, t ∈ ws ∧ bkK t = false
theorem R_put {B : Nat} {ok : Nat → Prop} {v : Value} {L : List Bk} {W : World} {l : Nat} {o : Obj} (o' : Obj) (h : kBk.R 30 W B ok v L) (hl : W.heap[l]? = some o) (ho : o.isCells = false) : kBk.R 30 (W.putObj l o') B ok v L :=
  Kd.R_mono (Kd.R_step (Kd.R_bound h) (fun k hk _ => World.putObj_heap_other (fun e => by
    obtain ⟨_, _, _, q, _, cells, hc⟩ := hk
    rw [e, hl] at hc
    rw [Option.some.inj hc] at ho
    cases ho))) (fun k hk => hk.1)
theorem below_put {w W : World} {l : Nat} (o' : Obj) (h : Below w.heap.size w W) (hl : w.heap.size ≤ l) : Below w.heap.size w (W.putObj l o') :=
  h.trans ((Below.refl w.heap.size W).grown (grownBy_putObj' W l o') h.size (fun k e => by cases e; exact hl))
theorem LnI.put {w : World} {ws : List Bs} {pre : List (LnW ws)} {W : World} {l : Nat} {o : Obj} (o' : Obj) (h : LnI w ws pre W) (hl5 : w.heap.size + 5 ≤ l) (hl : W.heap[l]? = some o) (ho : o.isCells = false) : LnI w ws pre (W.putObj l o') := by
  obtain ⟨v, h1, h2⟩ := h.out
  exact ⟨(World.putObj_heap_other (by omega)).trans h.bx, (World.putObj_heap_other (by omega)).trans h.r1, (World.putObj_heap_other (by omega)).trans h.r2, ⟨v, (World.putObj_heap_other (by omega)).trans h1, R_put o' h2 hl ho⟩, below_put o' h.hb (by omega), h.ok, by rw [World.putObj_size]; exact h.sz⟩
theorem LnO.put {w : World} {ws : List Bs} {W : World} {l : Nat} (o' : Obj) (h : LnO w ws W) (hl5 : w.heap.size + 5 ≤ l) : LnO w ws (W.putObj l o') :=
  ⟨(World.putObj_heap_other (by omega)).trans h.r1, (World.putObj_heap_other (by omega)).trans h.r2, below_put o' h.hb (by omega), h.bad⟩
theorem LnI.st {w : World} {ws : List Bs} {pre : List (LnW ws)} {W W' : World} (h : LnI w ws pre W) (hs : LnSt (w.heap.size + 4) W W') : LnI w ws pre W' := by
  obtain ⟨u, rfl⟩ := hs
  obtain ⟨v, h1, h2⟩ := h.out
  have hR := Kd.R_far h2 (p := ⟨w.heap.size + 4, 0, none⟩) (fun k hk => by show k ≠ w.heap.size + 4; omega) u
  exact ⟨blk_far h.bx (p := ⟨w.heap.size + 4, 0, none⟩) (by show w.heap.size ≠ w.heap.size + 4; omega) u, blk_far h.r1 (p := ⟨w.heap.size + 4, 0, none⟩) (by show w.heap.size + 1 ≠ w.heap.size + 4; omega) u, blk_far h.r2 (p := ⟨w.heap.size + 4, 0, none⟩) (by show w.heap.size + 2 ≠ w.heap.size + 4; omega) u,
    ⟨v, blk_far h1 (p := ⟨w.heap.size + 4, 0, none⟩) (by show w.heap.size + 3 ≠ w.heap.size + 4; omega) u, Kd.R_step hR (fun _ _ _ => rfl)⟩, bdrew (Below.setCell h.hb (p := ⟨w.heap.size + 4, 0, none⟩) (by show w.heap.size ≤ w.heap.size + 4; omega) u), h.ok, by
      have := h.sz
      simpa using this⟩
theorem LnI.below {w : World} {ws : List Bs} {pre : List (LnW ws)} {W W' : World} (h : LnI w ws pre W) (hb : Below W.heap.size W W') : LnI w ws pre W' := by
  obtain ⟨v, h1, h2⟩ := h.out
  exact ⟨blk_below h.bx hb, blk_below h.r1 hb, blk_below h.r2 hb, ⟨v, blk_below h1 hb, Kd.R_below h2 hb⟩, bstep h.hb hb, h.ok, Nat.le_trans h.sz hb.size⟩
/-- The world where the loop begins. -/
def lnW0 (w : World) (s : ByteArray) : World := ((((w.alloc (.cells #[.func (.func 91) #[] #[]] 107)).alloc (.cells #[.slice none 0 0] 24)).alloc (.cells #[.bool false] 4)).alloc (.cells #[.slice none 0 0] 24)).alloc (.cells #[.string s] 9)
theorem lnW0_size (w : World) (s : ByteArray) : (lnW0 w s).heap.size = w.heap.size + 5 := by simp [lnW0]
theorem lnW0_box (w : World) (s : ByteArray) : (lnW0 w s).heap[w.heap.size + 4]? = some (.cells #[.string s] 9 (0, 0)) := by
  have h := blk_new ((((w.alloc (.cells #[.func (.func 91) #[] #[]] 107)).alloc (.cells #[.slice none 0 0] 24)).alloc (.cells #[.bool false] 4)).alloc (.cells #[.slice none 0 0] 24)) (.cells #[.string s] 9)
  simp only [World.size_alloc] at h
  exact h
theorem LnI.start (w : World) (ws : List Bs) (s : ByteArray) : LnI w ws [] (lnW0 w s) := by
  have h0 := blk_new w (.cells #[.func (.func 91) #[] #[]] 107)
  have h1 := blk_new (w.alloc (.cells #[.func (.func 91) #[] #[]] 107)) (.cells #[.slice none 0 0] 24)
  have h2 := blk_new ((w.alloc (.cells #[.func (.func 91) #[] #[]] 107)).alloc (.cells #[.slice none 0 0] 24)) (.cells #[.bool false] 4)
  have h3 := blk_new (((w.alloc (.cells #[.func (.func 91) #[] #[]] 107)).alloc (.cells #[.slice none 0 0] 24)).alloc (.cells #[.bool false] 4)) (.cells #[.slice none 0 0] 24)
  simp only [World.size_alloc] at h1 h2 h3
  exact ⟨blk_alloc (blk_alloc (blk_alloc (blk_alloc h0 _) _) _) _, blk_alloc (blk_alloc (blk_alloc h1 _) _) _, blk_alloc (blk_alloc h2 _) _, ⟨_, blk_alloc h3 _, Kd.R_nil _ _ _ _ _⟩, balloc (balloc (balloc (balloc (balloc (Below.refl _ _) _) _) _) _) _, fun t ht => (by cases ht), (by rw [lnW0_size]; exact Nat.le_refl _)⟩
theorem LnI.alloc {w : World} {ws : List Bs} {pre : List (LnW ws)} {W : World} (h : LnI w ws pre W) (o : Obj) : LnI w ws pre (W.alloc o) := by
  obtain ⟨v, h1, h2⟩ := h.out
  exact ⟨blk_alloc h.bx o, blk_alloc h.r1 o, blk_alloc h.r2 o, ⟨v, blk_alloc h1 o, Kd.R_alloc h2 o⟩, balloc h.hb o, h.ok, by rw [World.size_alloc]; have := h.sz; omega⟩
theorem trim_nl (t : Bs) : (⟨(Go.Lib.trimSuffix (t ++ [10]) [10]).toArray⟩ : ByteArray) = bS t := by
  have h : Go.Lib.hasSuffix (t ++ [10]) [10] = true := by
    unfold Go.Lib.hasSuffix
    rw [List.isSuffixOf_iff_suffix]
    exact ⟨t, rfl⟩
  unfold Go.Lib.trimSuffix
  rw [if_pos h]
  show bS _ = bS t
  congr 1
  simp
/-- A list handed back, and whether. -/
def TupBB (w : World) (L : List Bk) (k : Bool) (v : Value) (w' : World) : Prop := ∃ v1, v = .tuple #[v1, .bool k] ∧ NewBk w L v1 w'
theorem sfx_no {p a : Bs} (h : (10 : UInt8) ∉ a) (ha : a ≠ []) : Go.Lib.hasSuffix (p ++ a) [10] = false := by
  unfold Go.Lib.hasSuffix
  cases hb : List.isSuffixOf [10] (p ++ a)
  · rfl
  · obtain ⟨q, hq⟩ := List.isSuffixOf_iff_suffix.1 hb
    have h1 : (q ++ [10]).getLast? = (p ++ a).getLast? := by rw [hq]
    rw [List.getLast?_append, List.getLast?_append] at h1
    obtain ⟨x, hx⟩ : ∃ x, a.getLast? = some x := Option.isSome_iff_exists.1 (by rw [List.getLast?_isSome]; exact ha)
    rw [hx] at h1
    simp at h1
    exact absurd (h1 ▸ List.mem_of_getLast? hx) h
theorem sfx_yes {ws : List Bs} (h : ws ≠ []) : Go.Lib.hasSuffix (lnT ws) [10] = true := by
  unfold Go.Lib.hasSuffix
  rw [List.isSuffixOf_iff_suffix]
  obtain ⟨r, x, hr⟩ : ∃ r x, ws = r ++ [x] := by
    obtain ⟨r, x, e⟩ := (List.eq_nil_or_concat ws).resolve_left h
    exact ⟨r, x, by rw [e, List.concat_eq_append]⟩
  rw [hr, lnT_snoc]
  exact ⟨lnT r ++ x, by simp⟩
theorem tupBB_no {w W : World} {l : Bs} (h : lsV l = [] ∧ lsE l = 5) : TupBB w (lsV l) (lsE l == 0) (.tuple #[.slice none 0 0, .bool false]) W := by
  rw [h.1, h.2]
  exact ⟨_, rfl, Kd.R_nil _ _ _ _ _⟩
theorem keeps_below {W W' : World} (h : Below W.heap.size W W') (B : Nat) : KeepsFrom B W W' := ⟨h.size, fun k o _ hk _ => (h.block k (blk_lt hk)).trans hk⟩
theorem keeps_set {B : Nat} {W W' : World} {p : Addr} (h : KeepsFrom B W W') (hp : p.block < B) (v : Value) : KeepsFrom B W (W'.setCell p v) :=
  ⟨by have := h.size; simpa using this, fun k o hk h1 h2 => (Below.heap_setCell W' p v k (by omega)).trans (h.same k o hk h1 h2)⟩
theorem LnI.stop {w : World} {ws : List Bs} {pre : List (LnW ws)} {W : World} (h : LnI w ws pre W) {t : Bs} (ht : t ∈ ws) (hk : bkK t = false) :
    LnO w ws ((W.setCell ⟨w.heap.size + 1, 0, none⟩ (.slice none 0 0)).setCell ⟨w.heap.size + 2, 0, none⟩ (.bool false)) :=
  ⟨blk_far (blk_set h.r1 0 (.slice none 0 0)) (p := ⟨w.heap.size + 2, 0, none⟩) (by show w.heap.size + 1 ≠ w.heap.size + 2; omega) _, blk_set (blk_far h.r2 (p := ⟨w.heap.size + 1, 0, none⟩) (by show w.heap.size + 2 ≠ w.heap.size + 1; omega) _) 0 (.bool false),
    Below.setCell (Below.setCell h.hb (p := ⟨w.heap.size + 1, 0, none⟩) (by show w.heap.size ≤ w.heap.size + 1; omega) _) (p := ⟨w.heap.size + 2, 0, none⟩) (by show w.heap.size ≤ w.heap.size + 2; omega) _, t, ht, hk⟩
theorem LnI.next {w : World} {ws : List Bs} {pre : List (LnW ws)} {W w9 : World} {v : Value} {rb : Bk} {x : LnW ws} (h : LnI w ws pre W) (hk : ∀ k, k < w.heap.size + 5 → w9.heap[k]? = W.heap[k]?)
    (hR : kBk.R 30 w9 w.heap.size (fun k => w.heap.size + 5 ≤ k) v (pre.map (fun t => bkV t.1) ++ [rb])) (hB : Below w.heap.size w w9) (hx : bkK x.1 = true) (hv : rb = bkV x.1) (hs : W.heap.size ≤ w9.heap.size) :
    LnI w ws (pre ++ [x]) (w9.setCell ⟨w.heap.size + 3, 0, none⟩ v) := by
  obtain ⟨u, h3, _⟩ := h.out
  have hsz := h.sz
  refine ⟨blk_far ((hk _ (by omega)).trans h.bx) (p := ⟨w.heap.size + 3, 0, none⟩) (by show w.heap.size ≠ w.heap.size + 3; omega) _, blk_far ((hk _ (by omega)).trans h.r1) (p := ⟨w.heap.size + 3, 0, none⟩) (by show w.heap.size + 1 ≠ w.heap.size + 3; omega) _, blk_far ((hk _ (by omega)).trans h.r2) (p := ⟨w.heap.size + 3, 0, none⟩) (by show w.heap.size + 2 ≠ w.heap.size + 3; omega) _,
    ⟨v, blk_set ((hk _ (by omega)).trans h3) 0 v, ?_⟩, Below.setCell hB (p := ⟨w.heap.size + 3, 0, none⟩) (by show w.heap.size ≤ w.heap.size + 3; omega) _, fun t ht => ?_, by simp; omega⟩
  · rw [List.map_append, List.map_cons, List.map_nil, ← hv]
    exact Kd.R_far hR (p := ⟨w.heap.size + 3, 0, none⟩) (fun k hk => by show k ≠ w.heap.size + 3; omega) _
  · rcases List.mem_append.1 ht with ht | ht
    · exact h.ok t ht
    · rw [List.mem_singleton.1 ht]; exact hx
/-- What the operations of a round keep: only blocks that are new in the round change. -/
def KL (w0 : World) (b w : World) : Prop := Below w0.heap.size w0 b → Below w0.heap.size w0 w
theorem kL (w0 : World) : Keep (KL w0) := ⟨fun h hb => bstep hb h, fun h k hb => k (h hb)⟩
/-- A book has been read into a block of its own. -/
def LnQ (A1 : Nat → Act) (W : World) (rb : Bk) (e : Exit) (a' : Act) (W' : World) : Prop := ∃ g, e = .normal ∧ a' = A1 g ∧ Below W.heap.size W W' ∧ W'.heap[g]? = some (.cells (bkCs rb) 30 (0, 0)) ∧ W.heap.size ≤ g
set_option maxHeartbeats 16000000 in
theorem readLines_c (l : Bs) (hl : l.length ≤ 1048576) (w : World) (ht : Txt w) :
    Calls Tryz.prog 102 #[.string (bS l), .int .i64 60, .func (.func 91) #[] #[]] w (RetQ w (TupBB w (lsV l) (lsE l == 0))) := by
  obtain ⟨ws, a, hla, ha10, hws10, hs, hct⟩ := lines_of l
  have HBD := Aside0.mk (fun h => ls_of (ls_bad hs h 5))
  have HGD := Aside0.mk (fun (h : a = []) (hn : ws.length ≤ 60) (hk : ∀ w, w ∈ ws → bkK w = true) => ls_all (by rw [hs, h]) hn hk)
  have hsz : (bS l).size ≤ 9223372036854775807 := by rw [bS_size]; omega
  have HSX := Aside0.mk (fun W => Tryz.strings_HasSuffix (bS l) (bS [10]) W hsz)
  have HCT0 := Aside0.mk (fun W => Tryz.strings_Count_one (bS l) 10 W)
  rw [bS_toList] at HSX HCT0
  rw [bS_toList] at HSX
  unfold Go.Lib.countByte at HCT0
  have HT := Aside0.mk ht
  clear hs ht
  by_cases ha : a = []
  · rw [ha, List.append_nil] at hla
    rw [hct] at HCT0
    have HCT := HCT0
    clear HCT0
    by_cases h60 : 60 < ws.length
    · have HN := Aside0.mk (HBD.out (.inr (.inl h60)))
      have hi60 : (60 : Int) < (ws.length : Int) := by omega
      have hwne : ws ≠ [] := fun h => by rw [h] at h60; cases h60
      have hlne : l ≠ [] := fun h => by rw [h] at hct; rw [← hct] at h60; cases h60
      have hne : (bS l).toList.isEmpty = false := by rw [bS_list]; simpa using hlne
      have hne2 : ¬ (bS l).toList = [] := by rw [bS_list]; exact hlne
      rw [show Go.Lib.hasSuffix l [10] = true by rw [hla]; exact sfx_yes hwne] at HSX
      clear hla hct ha HBD HGD h60 hlne hwne
      refine (callsIn_wide (n := 3)).1 ?_
      refine callsIn_of_wp_marks Tryz.func102 rfl trivial ?_ rfl
      simp only [Tryz.ntmps102, List.size_toArray, List.length_cons, List.length_nil, Nat.reduceAdd, Nat.reduceSub, Array.replicate_succ, Array.replicate_zero, List.push_toArray, List.append_toArray, List.nil_append, List.cons_append]
      gi_wp2_with (first | (refine ⟨trivial, ?_⟩; gi_at_call 155; refine (callsIn_wide.2 (HSX.out _)).mono ?_; rintro _ w2 ⟨rfl, rfl⟩) | (refine ⟨trivial, ?_⟩; gi_at_call 156; refine (callsIn_wide.2 (HCT.out _)).mono ?_; rintro _ w2 ⟨rfl, rfl⟩))
      refine ⟨.tuple #[.slice none 0 0, .bool false], by simp [results, Tryz.results102, go_sem], _, rfl, balloc (balloc (balloc (Below.refl _ _) _) _) _, tupBB_no HN.out⟩
    · have hi60 : ¬ (60 : Int) < (ws.length : Int) := by omega
      have hwl : (lnT ws).length ≤ 1048576 := by rw [← hla]; exact hl
      have HGO := Aside0.mk (HGD.out ha (by omega))
      have HBO := Aside0.mk (fun (h : ∃ w, w ∈ ws ∧ bkK w = false) => HBD.out (.inr (.inr ⟨h.choose, h.choose_spec.1, bk_none h.choose_spec.2⟩)))
      clear ha HBD HGD h60
      by_cases hwne : ws = []
      · have hne : (bS l).toList.isEmpty = true := by rw [bS_list, hla, hwne]; rfl
        have hne2 : (bS l).toList = [] := by rw [bS_list, hla, hwne]; rfl
        have HLA := Aside0.mk hla
        have HWN := Aside0.mk hwne
        clear hla hct hwne
        refine (callsIn_wide (n := 3)).1 ?_
        refine callsIn_of_wp_marks Tryz.func102 rfl trivial ?_ rfl
        simp only [Tryz.ntmps102, List.size_toArray, List.length_cons, List.length_nil, Nat.reduceAdd, Nat.reduceSub, Array.replicate_succ, Array.replicate_zero, List.push_toArray, List.append_toArray, List.nil_append, List.cons_append]
        gi_wp2_with (first | (refine ⟨trivial, ?_⟩; gi_at_call 156; refine (callsIn_wide.2 (HCT.out _)).mono ?_; rintro _ w2 ⟨rfl, rfl⟩) | (refine ⟨trivial, ?_⟩; gi_at_call 157; refine (Lines_in Fence.wide _ trivial rfl _ _).mono ?_; rintro _ w2 ⟨rfl, rfl⟩))
        refine ⟨trivial, ?_⟩
        gi_wp2_with (first | (refine ⟨trivial, ?_⟩; gi_at_call 156; refine (callsIn_wide.2 (HCT.out _)).mono ?_; rintro _ w2 ⟨rfl, rfl⟩) | (refine ⟨trivial, ?_⟩; gi_at_call 157; refine (Lines_in Fence.wide _ trivial rfl _ _).mono ?_; rintro _ w2 ⟨rfl, rfl⟩))
        refine range_box (n := 3) rfl (by decide) (gf := 189) (lb := #[.pointer (some ⟨w.heap.size + 4, 0, none⟩)]) (w := lnW0 w (bS l)) rfl trivial (enters_of Tryz.func189 (by kernel_rfl) rfl) (encs := fun x : LnW ws => #[.string (bS (x.1 ++ [10]))]) (fun _ => rfl) (b := w.heap.size + 4) (lines_box 2 (by decide) (w.heap.size + 4) ws ws (fun _ h => h) hws10 hwl (lnW0 w (bS l)) (by have h9 := lnW0_box w (bS l); rw [HLA.out] at h9 ⊢; exact h9)) (by rw [lnW0_size]; omega)
          (LnI w ws) (LnO w ws) (fun pre W q o o' hi hq ho hc => hi.put o' (by rw [lnW0_size] at hq; exact hq) ho hc) (fun W q o o' hi hq ho hc => hi.put o' (by rw [lnW0_size] at hq; exact hq)) (fun pre W W' hi hs => hi.st hs)
          (fun W W' k o hs hk ho hc => by
            obtain ⟨u, rfl⟩ := hs
            rw [lnW0_size] at hk
            exact (Below.heap_setCell W ⟨w.heap.size + 4, 0, none⟩ u k (by show k ≠ w.heap.size + 4; omega)).trans ho)
          (fun o o' => ((LnI.start w ws (bS l)).alloc o).alloc o') ?a1 ?assign ?body ?done ?stop
        case assign =>
          intro q x W K hK
          gi_wp2
          exact hK
        case body =>
          intro q pre x W hsp hI
          exact absurd x.2 (by have h9 := HWN.out; rw [List.eq_nil_iff_forall_not_mem] at h9; exact h9 _)
        case done =>
          intro D xs W hD hS hI hK
          rw [lnW0_size] at hD
          obtain ⟨v, h1, h2⟩ := hI.out
          obtain ⟨A9, c9, rfl, hc9, _⟩ := Kd.R_reads h2
          have c3 := blk_cell h1 0
          have f3 := blk_frozen h1 0
          have c1 := blk_cell hI.r1 0
          have f1 := blk_frozen hI.r1 0
          have c2 := blk_cell hI.r2 0
          have f2 := blk_frozen hI.r2 0
          simp only [List.getElem?_toArray, List.getElem?_cons_zero] at c1 c2 c3
          have HN := Aside0.mk (HGO.out (fun t ht => by
            rw [← hS] at ht
            obtain ⟨y, hy, rfl⟩ := List.mem_map.1 ht
            exact hI.ok y hy))
          have HM := Aside0.mk (show xs.map (fun t => bkV t.1) = ws.map bkV by rw [← congrArg (List.map bkV) hS, List.map_map]; rfl)
          gi_wp2
          have HR2 := Aside0.mk (Kd.R_far (Kd.R_far h2 (p := ⟨w.heap.size + 1, 0, none⟩) (fun k hk => by show k ≠ w.heap.size + 1; omega) (.slice A9 xs.length c9)) (p := ⟨w.heap.size + 2, 0, none⟩) (fun k hk => by show k ≠ w.heap.size + 2; omega) (.bool true))
          have b1 := blk_far (blk_set hI.r1 0 (.slice A9 xs.length c9)) (p := ⟨w.heap.size + 2, 0, none⟩) (by show w.heap.size + 1 ≠ w.heap.size + 2; omega) (.bool true)
          have b2 := blk_set (blk_far hI.r2 (p := ⟨w.heap.size + 1, 0, none⟩) (by show w.heap.size + 2 ≠ w.heap.size + 1; omega) (.slice A9 xs.length c9)) 0 (.bool true)
          have kD := (Below.heap_setCell (W.setCell ⟨w.heap.size + 1, 0, none⟩ (.slice A9 xs.length c9)) ⟨w.heap.size + 2, 0, none⟩ (.bool true) D (by show D ≠ w.heap.size + 2; omega)).trans ((Below.heap_setCell W ⟨w.heap.size + 1, 0, none⟩ (.slice A9 xs.length c9) D (by show D ≠ w.heap.size + 1; omega)).trans hK)
          have HB2 := Aside0.mk (Below.setCell (Below.setCell hI.hb (p := ⟨w.heap.size + 1, 0, none⟩) (by show w.heap.size ≤ w.heap.size + 1; omega) (.slice A9 xs.length c9)) (p := ⟨w.heap.size + 2, 0, none⟩) (by show w.heap.size ≤ w.heap.size + 2; omega) (.bool true))
          simp only [List.setIfInBounds_toArray, List.set_cons_zero] at b1 b2
          change bodyPostM _ _ _ _ _ _ _ ((W.setCell ⟨w.heap.size + 1, 0, none⟩ (.slice A9 xs.length c9)).setCell ⟨w.heap.size + 2, 0, none⟩ (.bool true))
          generalize (W.setCell ⟨w.heap.size + 1, 0, none⟩ (.slice A9 xs.length c9)).setCell ⟨w.heap.size + 2, 0, none⟩ (.bool true) = W2 at HR2 b1 b2 kD HB2 ⊢
          have q1 : (W2.putObj D (.deferred none)).cell? ⟨w.heap.size + 1, 0, none⟩ = some (.slice A9 xs.length c9) := blk_cell ((World.putObj_heap_other (by omega)).trans b1) 0
          have q2 : (W2.putObj D (.deferred none)).cell? ⟨w.heap.size + 1 + 1, 0, none⟩ = some (.bool true) := blk_cell ((World.putObj_heap_other (by omega)).trans b2) 0
          refine ⟨by simp, .inl ⟨_, _, rfl, run_takeDeferred kD, ?_⟩⟩
          refine ⟨.tuple #[.slice A9 xs.length c9, .bool true], by simp [results, Tryz.results102, go_sem, q1, q2], _, rfl, below_put _ HB2.out (by omega), ?_⟩
          rw [HN.out.1, HN.out.2, ← HM.out]
          have h9 := Kd.R_mono (R_put (.deferred none) HR2.out kD rfl) (fun _ _ => trivial)
          rw [List.length_map] at h9
          exact ⟨_, rfl, h9⟩
        case stop =>
          intro D W hD hO hK
          rw [lnW0_size] at hD
          have c1 := blk_cell hO.r1 0
          have c2 := blk_cell hO.r2 0
          simp only [List.getElem?_toArray, List.getElem?_cons_zero] at c1 c2
          have HN := Aside0.mk (HBO.out hO.bad)
          gi_wp2
          have q1 : (W.putObj D (.deferred none)).cell? ⟨w.heap.size + 1, 0, none⟩ = some (.slice none 0 0) := blk_cell ((World.putObj_heap_other (by omega)).trans hO.r1) 0
          have q2 : (W.putObj D (.deferred none)).cell? ⟨w.heap.size + 1 + 1, 0, none⟩ = some (.bool false) := blk_cell ((World.putObj_heap_other (by omega)).trans hO.r2) 0
          refine ⟨by simp, .inl ⟨_, _, rfl, run_takeDeferred hK, ?_⟩⟩
          exact ⟨.tuple #[.slice none 0 0, .bool false], by simp [results, Tryz.results102, go_sem, q1, q2], _, rfl, below_put _ hO.hb (by omega), tupBB_no HN.out⟩
      · have hlne : l ≠ [] := fun h => by
          rw [h] at hla
          cases ws with
          | nil => exact hwne rfl
          | cons y r => have := congrArg List.length hla; simp [lnT] at this
        have hne : (bS l).toList.isEmpty = false := by rw [bS_list]; simpa using hlne
        have hne2 : ¬ (bS l).toList = [] := by rw [bS_list]; exact hlne
        rw [show Go.Lib.hasSuffix l [10] = true by rw [hla]; exact sfx_yes hwne] at HSX
        have HLA := Aside0.mk hla
        clear hla hct hwne hlne
        refine (callsIn_wide (n := 3)).1 ?_
        refine callsIn_of_wp_marks Tryz.func102 rfl trivial ?_ rfl
        simp only [Tryz.ntmps102, List.size_toArray, List.length_cons, List.length_nil, Nat.reduceAdd, Nat.reduceSub, Array.replicate_succ, Array.replicate_zero, List.push_toArray, List.append_toArray, List.nil_append, List.cons_append]
        gi_wp2_with (first | (refine ⟨trivial, ?_⟩; gi_at_call 155; refine (callsIn_wide.2 (HSX.out _)).mono ?_; rintro _ w2 ⟨rfl, rfl⟩) | (refine ⟨trivial, ?_⟩; gi_at_call 156; refine (callsIn_wide.2 (HCT.out _)).mono ?_; rintro _ w2 ⟨rfl, rfl⟩) | (refine ⟨trivial, ?_⟩; gi_at_call 157; refine (Lines_in Fence.wide _ trivial rfl _ _).mono ?_; rintro _ w2 ⟨rfl, rfl⟩))
        refine range_box (n := 3) rfl (by decide) (gf := 189) (lb := #[.pointer (some ⟨w.heap.size + 4, 0, none⟩)]) (w := lnW0 w (bS l)) rfl trivial (enters_of Tryz.func189 (by kernel_rfl) rfl) (encs := fun x : LnW ws => #[.string (bS (x.1 ++ [10]))]) (fun _ => rfl) (b := w.heap.size + 4) (lines_box 2 (by decide) (w.heap.size + 4) ws ws (fun _ h => h) hws10 hwl (lnW0 w (bS l)) (by have h9 := lnW0_box w (bS l); rw [HLA.out] at h9 ⊢; exact h9)) (by rw [lnW0_size]; omega)
          (LnI w ws) (LnO w ws) (fun pre W q o o' hi hq ho hc => hi.put o' (by rw [lnW0_size] at hq; exact hq) ho hc) (fun W q o o' hi hq ho hc => hi.put o' (by rw [lnW0_size] at hq; exact hq)) (fun pre W W' hi hs => hi.st hs)
          (fun W W' k o hs hk ho hc => by
            obtain ⟨u, rfl⟩ := hs
            rw [lnW0_size] at hk
            exact (Below.heap_setCell W ⟨w.heap.size + 4, 0, none⟩ u k (by show k ≠ w.heap.size + 4; omega)).trans ho)
          (fun o o' => ((LnI.start w ws (bS l)).alloc o).alloc o') ?a2 ?assign2 ?body2 ?done2 ?stop2
        case assign2 =>
          intro q x W K hK
          gi_wp2
          exact hK
        case body2 =>
          intro q pre x Wr hsp hI
          have HI := Aside0.mk hI
          have HSP := Aside0.mk hsp
          clear hsp
          have HTS := Aside0.mk (fun W' => (Tryz.strings_TrimSuffix (bS (x.1 ++ [10])) (bS [10]) W' (by rw [bS_size]; have := ln_mem x.2; simp; omega)).mono (fun e w' h => show Ret W' (.string (bS x.1)) e w' by
            rw [bS_toList, bS_toList, trim_nl] at h
            exact ⟨h.1, by rw [h.2]; exact Below.refl _ _⟩))
          have HRB := Aside0.mk (fun W' (h : Below w.heap.size w W') => readBook_c x.1 (Nat.le_trans (ln_mem x.2) hwl) W' (HT.out.below h))
          have HVV := Aside0.mk (fun (h : bkK x.1 = true) => rb_ok h)
          have hbW := Aside0.mk HI.out.hb
          simp only [Bk.val] at HRB
          generalize rbV x.1 = rb at HRB HVV
          generalize hkk : bkK x.1 = kk at HRB HVV
          have HKK := Aside0.mk hkk
          clear hkk hI
          gi_wp2
          apply wpIn_mono (Q := LnQ _ Wr rb)
          · refine regionIn_HO (G := KL Wr) 9 (by kernel_rfl) (by kernel_rfl) (by rintro ⟨_, _, _, h, _⟩; cases h) (by kernel_rfl) ?_
            have c0 := blk_cell HI.out.bx 0
            simp only [List.getElem?_toArray, List.getElem?_cons_zero] at c0
            have hKL := kL Wr
            have HA := Aside0.mk (show Below Wr.heap.size Wr Wr.drew from bdrew (Below.refl _ _))
            generalize World.drew Wr = wb at HA ⊢
            refine HO_take hKL (i := 0) (v := ?_) rfl (by kernel_rfl) (by kernel_rfl) (by kernel_rfl) (by decide) (fun _ _ _ h => by obtain ⟨_, h, _⟩ := h; cases h) (fun b' hb' => Or.inl ⟨by kernel_rfl, fun W hW => ?_⟩) ?_
            rotate_left
            · have hW' := bstep (hb' HA.out) hW
              have q_0 := pw_cell_below hW' c0
              go_simp
              with_reducible rfl
            refine HO_take hKL (i := 1) (v := ?_) rfl (by kernel_rfl) (by kernel_rfl) (by kernel_rfl) (by decide) (fun _ _ _ h => by obtain ⟨_, h, _⟩ := h; cases h) (fun b' hb' => Or.inl ⟨by kernel_rfl, fun W hW => ?_⟩) ?_
            rotate_left
            · have hW' := bstep (hb' HA.out) hW
              go_simp
              with_reducible rfl
            refine HO_take hKL (i := 2) (v := .string (bS x.1)) rfl (by kernel_rfl) (by kernel_rfl) (by kernel_rfl) (by decide) (fun _ _ _ h => by obtain ⟨_, h, _⟩ := h; cases h) (fun b' hb' => Or.inl ⟨by kernel_rfl, fun W hW => ?_⟩) ?_
            · have hW' := bstep (hb' HA.out) hW
              go_simp
              exact (HTS.out W).mono (fun _ _ h => ⟨h.1, hW.step h.2⟩)
            refine HO_take hKL (i := 3) (v := .tuple #[.agg #[.int .i16 rb.c, .int .u8 rb.m0, .int .u8 rb.m1, .int .u8 rb.m2, .int .i16 rb.v, .int .i16 rb.wd, .int .i16 rb.h, .int .i16 rb.wt], .bool kk]) rfl (by kernel_rfl) (by kernel_rfl) (by kernel_rfl) (by decide) (fun _ _ _ h => by obtain ⟨_, h, _⟩ := h; cases h) (fun b' hb' => Or.inl ⟨by kernel_rfl, fun W hW => ?_⟩) ?_
            · have hW' := bstep (hb' HA.out) hW
              go_simp
              exact (HRB.out W (bstep hbW.out hW')).mono (fun _ _ h => ⟨h.1, hW.step h.2⟩)
            refine HO_take hKL (i := 4) (v := ?_) rfl (by kernel_rfl) (by kernel_rfl) (by kernel_rfl) (by decide) (fun _ _ _ h => by obtain ⟨_, h, _⟩ := h; cases h) (fun b' hb' => Or.inl ⟨by kernel_rfl, fun W hW => ?_⟩) ?_
            rotate_left
            · have hW' := bstep (hb' HA.out) hW
              go_simp
              with_reducible rfl
            refine HO_take hKL (i := 5) (v := ?_) rfl (by kernel_rfl) (by kernel_rfl) (by kernel_rfl) (by decide) (fun _ _ _ h => by obtain ⟨_, h, _⟩ := h; cases h) (fun b' hb' => Or.inl ⟨by kernel_rfl, fun W hW => ?_⟩) ?_
            rotate_left
            · have hW' := bstep (hb' HA.out) hW
              go_simp
              with_reducible rfl
            refine HO_take hKL (i := 6) (v := ?_) rfl (by kernel_rfl) (by kernel_rfl) (by kernel_rfl) (by decide) (fun _ _ _ h => by obtain ⟨_, h, _⟩ := h; cases h) (fun b' hb' => Or.inl ⟨by kernel_rfl, fun W hW => ?_⟩) ?_
            rotate_left
            · have hW' := bstep (hb' HA.out) hW
              go_simp
              with_reducible rfl
            clear c0
            refine HO_step (i := 7) rfl (by kernel_rfl) (by decide) (by kernel_rfl) (fun W2 hW2 K hK => ?_)
            go_simp
            refine hK _ _ (hKL.of (balloc (Below.refl _ _) _)) ?_
            clear hK K
            have HY := Aside0.mk (blk_new W2 (.cells #[.int .i16 0, .int .u8 0, .int .u8 0, .int .u8 0, .int .i16 0, .int .i16 0, .int .i16 0, .int .i16 0] 30))
            have HA2 := Aside0.mk (balloc (bstep HA.out hW2) (.cells #[.int .i16 0, .int .u8 0, .int .u8 0, .int .u8 0, .int .i16 0, .int .i16 0, .int .i16 0, .int .i16 0] 30))
            have HG := Aside0.mk (show Wr.heap.size ≤ W2.heap.size from Nat.le_trans HA.out.size hW2.size)
            clear hW2
            generalize World.alloc W2 _ = W3 at HY HA2 ⊢
            generalize W2.heap.size = g at HY HG ⊢
            refine HO_step (i := 8) rfl (by kernel_rfl) (by decide) (by kernel_rfl) (fun W4 hW4 K hK => ?_)
            have hy := blk_below HY.out hW4
            have HA4 := Aside0.mk (bstep HA2.out hW4)
            clear hW4
            have c0 := blk_cell hy 0
            have f0 := blk_frozen hy 0
            have c1 := blk_cell hy 1
            have f1 := blk_frozen hy 1
            have c2 := blk_cell hy 2
            have f2 := blk_frozen hy 2
            have c3 := blk_cell hy 3
            have f3 := blk_frozen hy 3
            have c4 := blk_cell hy 4
            have f4 := blk_frozen hy 4
            have c5 := blk_cell hy 5
            have f5 := blk_frozen hy 5
            have c6 := blk_cell hy 6
            have f6 := blk_frozen hy 6
            have c7 := blk_cell hy 7
            have f7 := blk_frozen hy 7
            simp only [List.getElem?_toArray, List.getElem?_cons_zero, List.getElem?_cons_succ] at c0 c1 c2 c3 c4 c5 c6 c7
            go_simp
            refine hK _ (put8 W4 g rb) (fun hb => put8_below rb hb HG.out) ?_
            clear hK K
            have HY5 := Aside0.mk (put8_blk rb hy)
            have HA5 := Aside0.mk (put8_below rb HA4.out HG.out)
            clear hy c0 c1 c2 c3 c4 c5 c6 c7 f0 f1 f2 f3 f4 f5 f6 f7
            generalize put8 W4 g rb = W5 at HY5 HA5 ⊢
            refine HO_end (by kernel_rfl) (fun W6 hW6 => ?_)
            have hy6 := blk_below HY5.out hW6
            have hA6 := bstep HA5.out hW6
            clear hW6
            go_wp2_with fail
            exact ⟨g, rfl, rfl, hA6, hy6, HG.out⟩
          · rintro e a' W' ⟨g, rfl, rfl, hA, hb, hg⟩
            have HI2 := Aside0.mk (HI.out.below hA)
            have HA := Aside0.mk hA
            have HBB := Aside0.mk hb
            have HG := Aside0.mk hg
            clear hA hb hg
            cases kk
            · have c1 := blk_cell HI2.out.r1 0
              have f1 := blk_frozen HI2.out.r1 0
              have c2 := blk_cell HI2.out.r2 0
              have f2 := blk_frozen HI2.out.r2 0
              simp only [List.getElem?_toArray, List.getElem?_cons_zero] at c1 c2
              gi_wp2
              exact ⟨keeps_set (p := ⟨w.heap.size + 2, 0, none⟩) (keeps_set (p := ⟨w.heap.size + 1, 0, none⟩) (keeps_below HA.out _) (by rw [lnW0_size]; show w.heap.size + 1 < _; omega) _) (by rw [lnW0_size]; show w.heap.size + 2 < _; omega) _, HI2.out.stop x.2 HKK.out⟩
            · obtain ⟨v, h3, h4⟩ := HI2.out.out
              have c9 := blk_cell h3 0
              have f9 := blk_frozen h3 0
              have hx := HBB.out
              have c0 := blk_cell hx 0
              have f0 := blk_frozen hx 0
              have c1 := blk_cell hx 1
              have f1 := blk_frozen hx 1
              have c2 := blk_cell hx 2
              have f2 := blk_frozen hx 2
              have c3 := blk_cell hx 3
              have f3 := blk_frozen hx 3
              have c4 := blk_cell hx 4
              have f4 := blk_frozen hx 4
              have c5 := blk_cell hx 5
              have f5 := blk_frozen hx 5
              have c6 := blk_cell hx 6
              have f6 := blk_frozen hx 6
              have c7 := blk_cell hx 7
              have f7 := blk_frozen hx 7
              simp only [List.getElem?_toArray, List.getElem?_cons_zero, List.getElem?_cons_succ] at c0 c1 c2 c3 c4 c5 c6 c7
              simp only [List.getElem?_toArray, List.getElem?_cons_zero] at c9
              have HR3 := Aside0.mk h4
              have HH3 := Aside0.mk h3
              have hpl : pre.length ≤ 1000000 := by have h7 := HSP.out; rw [List.length_append] at h7; omega
              clear h3 h4 hx
              gi_wp2_with (gi_at_builtin; refine bk_appIn (w0 := w) (B := w.heap.size) (G := w.heap.size + 5) rfl (.tmp 37) (.tmp 39) rfl v (pre.map (fun t => bkV t.1)) rb rfl rfl HR3.out HI2.out.hb HI2.out.hb.size HI2.out.sz (by rw [List.length_map]; omega) ?_; intro v1 w9 hR1 hB1 hk1 hk2; obtain ⟨g9, d9, e9, _, _⟩ := Kd.R_form hR1 (by simp); subst e9; have hg3 := (hk1 (w.heap.size + 3) (by omega)).trans HH3.out; have c9 := blk_cell hg3 0; have f9 := blk_frozen hg3 0; simp only [List.getElem?_toArray, List.getElem?_cons_zero] at c9; clear hg3; have HR9 := Aside0.mk hR1; have HB9 := Aside0.mk hB1; have HK1 := Aside0.mk hk1; have HK2 := Aside0.mk hk2; clear hR1 hB1 hk1 hk2)
              exact ⟨keeps_set (p := ⟨w.heap.size + 3, 0, none⟩) ((keeps_below HA.out _).trans (by rw [lnW0_size]; exact HK2.out)) (by rw [lnW0_size]; show w.heap.size + 3 < _; omega) _,
                ((Below.heap_setCell _ _ _ _ (by show w.heap.size + 4 ≠ w.heap.size + 3; omega)).trans (HK1.out _ (by omega))).trans (HA.out.block _ (by have := HI.out.sz; omega)), HI2.out.next (rb := rb) HK1.out (by have h9 := HR9.out; rw [show (pre.map (fun t => bkV t.1) ++ [rb]).length = pre.length + 1 by simp] at h9; exact h9) HB9.out HKK.out (HVV.out (by trivial)) HK2.out.size⟩
        case done2 =>
          intro D xs W hD hS hI hK
          rw [lnW0_size] at hD
          obtain ⟨v, h1, h2⟩ := hI.out
          obtain ⟨A9, c9, rfl, hc9, _⟩ := Kd.R_reads h2
          have c3 := blk_cell h1 0
          have f3 := blk_frozen h1 0
          have c1 := blk_cell hI.r1 0
          have f1 := blk_frozen hI.r1 0
          have c2 := blk_cell hI.r2 0
          have f2 := blk_frozen hI.r2 0
          simp only [List.getElem?_toArray, List.getElem?_cons_zero] at c1 c2 c3
          have HN := Aside0.mk (HGO.out (fun t ht => by
            rw [← hS] at ht
            obtain ⟨y, hy, rfl⟩ := List.mem_map.1 ht
            exact hI.ok y hy))
          have HM := Aside0.mk (show xs.map (fun t => bkV t.1) = ws.map bkV by rw [← congrArg (List.map bkV) hS, List.map_map]; rfl)
          gi_wp2
          have HR2 := Aside0.mk (Kd.R_far (Kd.R_far h2 (p := ⟨w.heap.size + 1, 0, none⟩) (fun k hk => by show k ≠ w.heap.size + 1; omega) (.slice A9 xs.length c9)) (p := ⟨w.heap.size + 2, 0, none⟩) (fun k hk => by show k ≠ w.heap.size + 2; omega) (.bool true))
          have b1 := blk_far (blk_set hI.r1 0 (.slice A9 xs.length c9)) (p := ⟨w.heap.size + 2, 0, none⟩) (by show w.heap.size + 1 ≠ w.heap.size + 2; omega) (.bool true)
          have b2 := blk_set (blk_far hI.r2 (p := ⟨w.heap.size + 1, 0, none⟩) (by show w.heap.size + 2 ≠ w.heap.size + 1; omega) (.slice A9 xs.length c9)) 0 (.bool true)
          have kD := (Below.heap_setCell (W.setCell ⟨w.heap.size + 1, 0, none⟩ (.slice A9 xs.length c9)) ⟨w.heap.size + 2, 0, none⟩ (.bool true) D (by show D ≠ w.heap.size + 2; omega)).trans ((Below.heap_setCell W ⟨w.heap.size + 1, 0, none⟩ (.slice A9 xs.length c9) D (by show D ≠ w.heap.size + 1; omega)).trans hK)
          have HB2 := Aside0.mk (Below.setCell (Below.setCell hI.hb (p := ⟨w.heap.size + 1, 0, none⟩) (by show w.heap.size ≤ w.heap.size + 1; omega) (.slice A9 xs.length c9)) (p := ⟨w.heap.size + 2, 0, none⟩) (by show w.heap.size ≤ w.heap.size + 2; omega) (.bool true))
          simp only [List.setIfInBounds_toArray, List.set_cons_zero] at b1 b2
          change bodyPostM _ _ _ _ _ _ _ ((W.setCell ⟨w.heap.size + 1, 0, none⟩ (.slice A9 xs.length c9)).setCell ⟨w.heap.size + 2, 0, none⟩ (.bool true))
          generalize (W.setCell ⟨w.heap.size + 1, 0, none⟩ (.slice A9 xs.length c9)).setCell ⟨w.heap.size + 2, 0, none⟩ (.bool true) = W2 at HR2 b1 b2 kD HB2 ⊢
          have q1 : (W2.putObj D (.deferred none)).cell? ⟨w.heap.size + 1, 0, none⟩ = some (.slice A9 xs.length c9) := blk_cell ((World.putObj_heap_other (by omega)).trans b1) 0
          have q2 : (W2.putObj D (.deferred none)).cell? ⟨w.heap.size + 1 + 1, 0, none⟩ = some (.bool true) := blk_cell ((World.putObj_heap_other (by omega)).trans b2) 0
          refine ⟨by simp, .inl ⟨_, _, rfl, run_takeDeferred kD, ?_⟩⟩
          refine ⟨.tuple #[.slice A9 xs.length c9, .bool true], by simp [results, Tryz.results102, go_sem, q1, q2], _, rfl, below_put _ HB2.out (by omega), ?_⟩
          rw [HN.out.1, HN.out.2, ← HM.out]
          have h9 := Kd.R_mono (R_put (.deferred none) HR2.out kD rfl) (fun _ _ => trivial)
          rw [List.length_map] at h9
          exact ⟨_, rfl, h9⟩
        case stop2 =>
          intro D W hD hO hK
          rw [lnW0_size] at hD
          have c1 := blk_cell hO.r1 0
          have c2 := blk_cell hO.r2 0
          simp only [List.getElem?_toArray, List.getElem?_cons_zero] at c1 c2
          have HN := Aside0.mk (HBO.out hO.bad)
          gi_wp2
          have q1 : (W.putObj D (.deferred none)).cell? ⟨w.heap.size + 1, 0, none⟩ = some (.slice none 0 0) := blk_cell ((World.putObj_heap_other (by omega)).trans hO.r1) 0
          have q2 : (W.putObj D (.deferred none)).cell? ⟨w.heap.size + 1 + 1, 0, none⟩ = some (.bool false) := blk_cell ((World.putObj_heap_other (by omega)).trans hO.r2) 0
          refine ⟨by simp, .inl ⟨_, _, rfl, run_takeDeferred hK, ?_⟩⟩
          exact ⟨.tuple #[.slice none 0 0, .bool false], by simp [results, Tryz.results102, go_sem, q1, q2], _, rfl, below_put _ hO.hb (by omega), tupBB_no HN.out⟩
  · have HN := Aside0.mk (HBD.out (.inl ha))
    have hne : (bS l).toList.isEmpty = false := by rw [bS_list, hla]; simp [ha]
    have hne2 : ¬ (bS l).toList = [] := by rw [bS_list, hla]; simp [ha]
    rw [show Go.Lib.hasSuffix l [10] = false by rw [hla]; exact sfx_no ha10 ha] at HSX
    clear hla hct ha HBD HGD
    refine (callsIn_wide (n := 3)).1 ?_
    refine callsIn_of_wp_marks Tryz.func102 rfl trivial ?_ rfl
    simp only [Tryz.ntmps102, List.size_toArray, List.length_cons, List.length_nil, Nat.reduceAdd, Nat.reduceSub, Array.replicate_succ, Array.replicate_zero, List.push_toArray, List.append_toArray, List.nil_append, List.cons_append]
    gi_wp2_with (refine ⟨trivial, ?_⟩; gi_at_call 155; refine (callsIn_wide.2 (HSX.out _)).mono ?_; rintro _ w2 ⟨rfl, rfl⟩)
    refine ⟨trivial, ?_⟩
    gi_wp2
    refine ⟨.tuple #[.slice none 0 0, .bool false], by simp [results, Tryz.results102, go_sem], _, rfl, balloc (balloc (balloc (Below.refl _ _) _) _) _, tupBB_no HN.out⟩
theorem ls_cases (l : Bs) : (lsE l = 0) ∨ (lsV l = [] ∧ lsE l = 5) := by
  by_cases h : ∃ L, RdLs l L
  · obtain ⟨L, hL⟩ := h
    exact .inl (ls_of (.inl ⟨rfl, hL⟩)).2
  · exact .inr (ls_of (.inr ⟨rfl, rfl, fun L hL => h ⟨L, hL⟩⟩))
set_option maxHeartbeats 1000000 in
theorem ReadBooks_c (l : Bs) (hl : l.length ≤ 1048576) (w : World) (ht : Txt w) : Calls Tryz.prog 29 #[.string (bS l)] w (RetQ w (TupB w (lsV l) (lsE l))) := by
  have HR := Aside0.mk (readLines_c l hl w ht)
  clear ht
  rcases ls_cases l with h | ⟨hv0, h⟩
  · rw [h, show ((0 : Int) == 0) = true from rfl] at HR
    rw [h]
    clear h
    generalize lsV l = L at HR ⊢
    go_enter Tryz.func29, Tryz.ntmps29
    go_wp2_with fail
    refine HR.out.mono ?_; rintro _ w1 ⟨_, rfl, hb1, v1, rfl, hv⟩
    have HV := Aside0.mk hv
    have HB := Aside0.mk hb1
    obtain ⟨A1, c1, rfl, _, _⟩ := Kd.R_reads hv
    clear hv hb1
    go_wp2
    go_ret2
    exact ⟨_, rfl, HB.out, _, rfl, HV.out⟩
  · rw [h, show ((5 : Int) == 0) = false from rfl] at HR
    rw [h, hv0]
    clear h hv0
    generalize lsV l = L at HR
    go_enter Tryz.func29, Tryz.ntmps29
    go_wp2_with fail
    refine HR.out.mono ?_; rintro _ w1 ⟨_, rfl, hb1, v1, rfl, hv⟩
    have HB := Aside0.mk hb1
    obtain ⟨A1, c1, rfl, _, _⟩ := Kd.R_reads hv
    clear hv hb1
    go_wp2
    go_ret2
    exact ⟨_, rfl, HB.out, _, rfl, Kd.R_nil _ _ _ _ _⟩
end Go.Proofs.YtgibcacciedobaaGreatDoor
end
section
/- The text of a list of books: the program's. -/
namespace Go.Proofs.YtgibcacciedobaaGreatDoor
open Go.RowKit Go.Proofs.YtgibcacciedobaaGreatDoorW.PrintWords Go.Proofs.YtgibcacciedobaaGreatDoorW.PrintMore
set_option linter.unusedVariables false
set_option linter.unusedSimpArgs false
set_option maxRecDepth 100000

theorem bdF_below {T e : TypeId} {B b : Nat} {p : Value} {bs : List Value} {w w1 : World} (h : Go.Lib.BuilderAtF T e B b p bs w) (hb : Below w.heap.size w w1) : Go.Lib.BuilderAtF T e B b p bs w1 := by
  obtain ⟨h0, v, h1, ⟨h2, h3⟩, h4⟩ := h
  refine ⟨h0, v, blk_below h1 hb, ⟨h2, ?_⟩, h4⟩
  rcases h3 with h3 | ⟨g, cap, cur, fz, a1, a2, a3, a4⟩
  · exact .inl h3
  · exact .inr ⟨g, cap, cur, fz, a1, a2, blk_below a3 hb, a4⟩
theorem isF_below {T e : TypeId} {B b : Nat} {bs : List Value} {w w1 : World} (h : Go.Lib.IsBuilderF T e B b bs w) (hb : Below w.heap.size w w1) : Go.Lib.IsBuilderF T e B b bs w1 :=
  h.elim (fun h => .inl (bdF_below h hb)) (fun h => .inr (bdF_below h hb))
theorem writeS_c (B b : Nat) (l : Bs) (s : ByteArray) (w : World) (h : Go.Lib.IsBuilderF 173 5 B b (Go.Lib.byteCells l) w) (hlen : l.length + s.size ≤ 100000) (hBw : B ≤ w.heap.size) :
    Calls Tryz.prog 159 #[.pointer (some ⟨b, 0, none⟩), .string s] w fun e w' => e = .returned (.tuple #[.int .i64 s.size, .nilIface]) ∧ Go.Lib.IsBuilderF 173 5 B b (Go.Lib.byteCells (l ++ s.data.toList)) w' ∧ Below B w w' :=
  (Any.Builder_WriteString_k (ρ := Tryz.lays156_ren) { Tryz.lays156 with } Tryz.Builder_Extra_156 B b (Go.Lib.byteCells l) s w h (by rw [Go.Lib.byteCells_length]; omega) hBw).mono fun e w' ⟨h1, h2, h3, _⟩ =>
    ⟨h1, .inr (by rw [Go.Lib.byteCells_append, ← Go.Lib.strCells_eq]; exact h2), h3⟩
theorem lnT_take {L : List Bk} {k : Nat} {b : Bk} (hx : L[k]? = some b) : lnT ((L.take (k + 1)).map bkT) = lnT ((L.take k).map bkT) ++ (bkT b ++ [10]) := by
  rw [take_snoc hx, List.map_append]
  exact lnT_snoc _ _
set_option maxHeartbeats 4000000 in
theorem linesText_c (A : Option Addr) (c : Nat) (L : List Bk) (hn : L.length ≤ 60) (hv : ∀ b, b ∈ L → vBook b = true) (w : World) (hL : kBk.C w A L.length L) (ht : Tab w) :
    Calls Tryz.prog 103 #[.slice A L.length c, .func (.func 92) #[] #[]] w (Ret w (.string (bS (lsT L)))) := by
  have hm := Kd.C_max hL
  have HL := Aside0.mk hL
  have HV := Aside0.mk hv
  have HT := Aside0.mk ht
  have hfn : Fun Tryz.prog 92 := ⟨_, Tryz.func92, rfl, rfl⟩
  have hcf := hfn.run
  have hB0 := Go.Lib.IsBuilderF.of (Go.Lib.fresh_isBuilder 173 5 w)
  have hb0 : Below w.heap.size w (w.alloc (.cells #[.pointer none, .slice none 0 0] 173)) := balloc (Below.refl _ _) _
  have HI0 := Aside0.mk hB0
  have HB0 := Aside0.mk hb0
  clear hL hv ht hfn hB0 hb0
  go_enter Tryz.func103, Tryz.ntmps103
  go_wp2_with fail
  go_loopg [10] L.length (fun gk v10 wr => ∃ k : Nat, k + gk = L.length ∧ v10 = .int .i64 k ∧ Aside0 (Go.Lib.IsBuilderF 173 5 w.heap.size w.heap.size (Go.Lib.byteCells (lnT ((L.take k).map bkT))) wr) ∧ Aside0 (Below w.heap.size w wr))
  case atStart => exact ⟨0, by omega, rfl, HI0, HB0⟩
  case round =>
    clear HI0 HB0
    obtain ⟨k, hk, rfl, HI, hb⟩ := hrel
    have HK := Aside0.mk hk
    by_cases hlt : k < L.length
    · obtain ⟨ad, b, rfl, hbk, ha⟩ := at_bk' (Kd.C_below HL.out hb.out) k (by omega)
      have hvb := HV.out b (mem_of hbk.out)
      have HC := Aside0.mk (fun W h => bookText_c b (vB1 hvb) W h)
      have hlen := bkT_len (vB1 hvb)
      have HNX := Aside0.mk (lnT_take hbk.out)
      have hpre : (lnT ((L.take k).map bkT)).length ≤ 1860 := lsT_len (L := L.take k) (by rw [List.length_take]; omega) (fun x hx => HV.out x (List.mem_of_mem_take hx))
      have HPRE := Aside0.mk hpre
      have HLEN := Aside0.mk hlen
      have s1 : ¬ (9223372036854775807 < (bS (bkT b)).size + 1) := by rw [bS_size]; omega
      have i0 : (0 : Int) ≤ (k : Int) := by omega
      have i1 : (k : Int) < (L.length : Int) := by omega
      have HW2 := Aside0.mk (show Below wr.heap.size wr (wr.alloc (.cells #[.int .i16 b.c, .int .u8 b.m0, .int .u8 b.m1, .int .u8 b.m2, .int .i16 b.v, .int .i16 b.wd, .int .i16 b.h, .int .i16 b.wt] 30)) from balloc (Below.refl _ _) _)
      simp only [Bk.val] at HC
      obtain ⟨c0, c1, c2, c3, c4, c5, c6, c7⟩ := ha
      clear hk hvb hlen hpre
      go_wp2_with fail
      clear c0 c1 c2 c3 c4 c5 c6 c7
      refine (HC.out _ (HT.out.below (bstep hb.out HW2.out))).mono ?_; rintro _ w3 ⟨rfl, hb3⟩
      have HB3 := Aside0.mk (bstep hb.out (bstep HW2.out hb3))
      have HI3 := Aside0.mk (isF_below HI.out (bstep HW2.out hb3))
      clear hb3 HW2
      have hsz : (lnT ((L.take k).map bkT)).length + (bS (bkT b) ++ ({ data := #[10] } : ByteArray)).size ≤ 100000 := by
        rw [ByteArray.size_append, bS_size, show (ByteArray.size { data := #[10] }) = 1 from rfl]
        have := HPRE.out
        have := HLEN.out
        omega
      have HWR := Aside0.mk (writeS_c w.heap.size w.heap.size (lnT ((L.take k).map bkT)) (bS (bkT b) ++ { data := #[10] }) w3 HI3.out hsz HB3.out.size)
      clear hsz
      go_wp2_with fail
      refine HWR.out.mono ?_; rintro _ w4 ⟨rfl, hI4, hb4⟩
      have HB4 := Aside0.mk (HB3.out.trans hb4)
      have HI4 := Aside0.mk (show Go.Lib.IsBuilderF 173 5 w.heap.size w.heap.size (Go.Lib.byteCells (lnT ((L.take (k + 1)).map bkT))) w4 by
        rw [HNX.out]
        have e : (bS (bkT b) ++ { data := #[10] } : ByteArray).data.toList = bkT b ++ [10] := by rw [show ({ data := #[10] } : ByteArray) = bS [10] from rfl, bS_append, bS_toList]
        rw [e] at hI4
        exact hI4)
      clear hb4 hI4
      go_wp2
      go_roundg (gk - 1)
      case measure => have := HK.out; omega
      case rel => exact ⟨k + 1, by have := HK.out; omega, by go_num, HI4, HB4⟩
    · have HS := Aside0.mk (show L.take k = L from List.take_of_length_le (by omega))
      rw [HS.out] at HI
      clear hk
      go_wp2_with fail
      refine (Tryz.Builder_String_any_k w.heap.size w.heap.size (lsT L) wr HI.out hb.out.size).mono ?_; rintro _ w5 ⟨rfl, _, hb5, _⟩
      go_wp2
      go_ret
      exact ⟨rfl, hb.out.trans hb5⟩
end Go.Proofs.YtgibcacciedobaaGreatDoor
end
section
/- The text of a list of books: the reference's; BooksText of both. -/
namespace Go.Proofs.YtgibcacciedobaaGreatDoor
open Go.RowKit Go.Proofs.YtgibcacciedobaaGreatDoorW.PrintWords Go.Proofs.YtgibcacciedobaaGreatDoorW.PrintMore
set_option linter.unusedVariables false
set_option linter.unusedSimpArgs false
set_option maxRecDepth 100000

def tBs (L : List Bk) : ByteArray := if vBooks L = true then bS (lsT L) else ⟨#[]⟩
theorem vBooks_all {L : List Bk} (h : vBooks L = true) : L.length ≤ 60 ∧ ∀ b, b ∈ L → vBook b = true := by
  unfold vBooks at h
  simp only [Bool.and_eq_true, decide_eq_true_eq, List.all_eq_true] at h
  exact h
set_option maxHeartbeats 2000000 in
theorem BooksText_c (A : Option Addr) (c : Nat) (L : List Bk) (w : World) (hL : kBk.C w A L.length L) (ht : Tab w) : Calls Tryz.prog 30 #[.slice A L.length c] w (Ret w (.string (tBs L))) := by
  have HI := Aside0.mk (ValidBooks_c A c L w hL)
  have HE := Aside0.mk hL
  have HT := Aside0.mk ht
  clear ht hL
  cases hv : vBooks L
  · have HV := Aside0.mk (show tBs L = ⟨#[]⟩ by unfold tBs; rw [hv]; rfl)
    rw [hv] at HI
    clear hv
    go_enter Tryz.func30, Tryz.ntmps30
    go_wp2_with (go_at_call 34; refine HI.out.mono ?_; rintro _ w2 ⟨rfl, hb2⟩)
    go_ret
    exact ⟨ret_str HV.out.symm, hb2⟩
  · have HV := Aside0.mk (show tBs L = bS (lsT L) by unfold tBs; rw [hv]; rfl)
    have HC := Aside0.mk (fun W h1 h2 => linesText_c A c L (vBooks_all hv).1 (vBooks_all hv).2 W h1 h2)
    rw [hv] at HI
    clear hv
    go_enter Tryz.func30, Tryz.ntmps30
    go_wp2_with fail
    refine HI.out.mono ?_; rintro _ w1 ⟨rfl, hb1⟩
    have HB1 := Aside0.mk hb1
    clear hb1
    go_wp2_with fail
    refine (HC.out _ (Kd.C_below HE.out HB1.out) (HT.out.below HB1.out)).mono ?_; rintro _ w2 ⟨rfl, hb2⟩
    go_wp2
    go_ret
    exact ⟨ret_str HV.out.symm, bstep HB1.out hb2⟩
end Go.Proofs.YtgibcacciedobaaGreatDoor
end
section
/- The law FnBooks: what it asks, in plain Lean. -/
namespace Go.Proofs.YtgibcacciedobaaGreatDoor
open Go.RowKit Go.Proofs.YtgibcacciedobaaGreatDoorW.PrintWords Go.Proofs.YtgibcacciedobaaGreatDoorW.PrintMore
set_option linter.unusedVariables false
set_option linter.unusedSimpArgs false
set_option maxRecDepth 100000

/-- A list and its sorted form. -/
structure BkF (O : List Int) (L S : List Bk) : Prop where
  v : sortV O L = S
  e : sortE O L = 0
  v2 : sortV O S = S
  e2 : sortE O S = 0
  len : S.length = L.length
  val : vBooks S = true
  cnt : ∀ b, cntB S b = cntB L b
  adj : ∀ {i j : Nat} {x y : Bk}, i < j → S[i]? = some x → S[j]? = some y → cmpBy O x y ≤ 0
  cb : ∀ {i j : Nat} {x y : Bk}, S[i]? = some x → S[j]? = some y → cbV O x y = cmpBy O x y ∧ cbE O x y = 0
theorem BkF.of (O : List Int) {L : List Bk} (hv : ∀ b, b ∈ L → vBook b = true) (hok : OkL L) (hl : L.length ≤ 11) (ho : vOrd O = true) : BkF O L (Srt.sortL (ltBy O) L) := by
  have h1 : vBooks L = true := vBooks_of hv (by omega)
  have h2 : vBooks (Srt.sortL (ltBy O) L) = true := sort_valid hv (by omega)
  have g1 := sort_good (O := O) (L := L) (by unfold okSort; rw [ho, h1]; rfl)
  have g2 := sort_good (O := O) (L := Srt.sortL (ltBy O) L) (by unfold okSort; rw [ho, h2]; rfl)
  rw [sort_idem] at g2
  refine ⟨g1.1, g1.2, g2.1, g2.2, sort_len L, h2, cntB_sort L, fun hij hx hy => up_adj (sort_up L) hij hx hy, fun {i j x y} hx hy => ?_⟩
  have v1 := hv x (sort_mem.1 (List.mem_of_getElem? hx))
  have v2 := hv y (sort_mem.1 (List.mem_of_getElem? hy))
  have ok : okBy O x y = true := by unfold okBy; rw [ho, v1, v2]; rfl
  unfold cbV cbE
  rw [ok]
  exact ⟨rfl, rfl⟩
theorem usual_vOrd : vOrd usualL = true := by decide
theorem usual_C (W : World) : (Kd.int .i8).C (W.alloc (.cells #[.int .i8 1, .int .i8 2, .int .i8 3] 62)) (some ⟨W.heap.size, 0, none⟩) usualL.length usualL := by
  have hx := blk_new W (.cells #[.int .i8 1, .int .i8 2, .int .i8 3] 62)
  exact three_C _ _ 0 1 2 3 (blk_cell hx 0) (blk_cell hx 1) (blk_cell hx 2)
theorem tBs_ok {L : List Bk} (h : vBooks L = true) : tBs L = bS (lsT L) := by unfold tBs; rw [if_pos h]
theorem lsT_back {L : List Bk} (hn : L.length ≤ 60) (h : ∀ b, b ∈ L → vBook b = true) : lsV (lsT L) = L ∧ lsE (lsT L) = 0 := ls_of (.inl ⟨rfl, rdLs_self hn h⟩)
theorem pv_ok {L : List Bk} (h : vBooks L = true) : pairsV L = pairsL L ∧ eV L = 0 := by unfold pairsV eV; rw [h]; exact ⟨rfl, rfl⟩
theorem rv_ok {L : List Bk} (h : vBooks L = true) : runsV L = runsL L ∧ eV L = 0 := by unfold runsV eV; rw [h]; exact ⟨rfl, rfl⟩
theorem cmpBy_three (O : List Int) (a b : Bk) : cmpBy O a b = -1 ∨ cmpBy O a b = 0 ∨ cmpBy O a b = 1 := by
  induction O with
  | nil => exact .inr (.inl rfl)
  | cons f r ih =>
    have h1 := cmp3_three (num0 (absF f) a) (num1 (absF f) a) (num2 (absF f) a) (num0 (absF f) b) (num1 (absF f) b) (num2 (absF f) b)
    have h2 : sgnCmp f a b = -1 ∨ sgnCmp f a b = 0 ∨ sgnCmp f a b = 1 := by
      unfold sgnCmp fldCmp
      split <;> omega
    have e : cmpBy (f :: r) a b = if sgnCmp f a b = 0 then cmpBy r a b else sgnCmp f a b := rfl
    rw [e]
    split
    · exact ih
    · exact h2
theorem cmpU_three (a b : Bk) : cmpU a b = -1 ∨ cmpU a b = 0 ∨ cmpU a b = 1 := cmpBy_three usualL a b
theorem wrap_pred' (n : Nat) (h : n ≤ 1000000) : IntKind.i64.wrap ((n : Int) - 1) = (n : Int) - 1 := by rw [IntKind.wrap_i64]; omega
/-- The three kinds of lists, by what their runs tell. -/
theorem isS_cases {L : List Bk} (hv : vBooks L = true) :
    (L.length = 0 ∧ pairsL L ≤ 0 ∧ firstV L = 0 ∧ firstE L = 6 ∧ (runsL L).length = 0 ∧ longF L = 0 ∧ longM L = 0 ∧ longE L = 6) ∨
    ((0 < L.length ∧ outOf L < 0) ∧ pairsL L ≤ 0 ∧ firstV L = 0 ∧ firstE L = 6 ∧ (runsL L).length < 2 ∧ longF L = (longest L).1 ∧ longM L = (longest L).2 ∧ longE L = 0 ∧ ((longest L).1 ∈ runsL L ∧ 1 ≤ (longest L).2 ∧ (longest L).1 + (longest L).2 ≤ (L.length : Int))) ∨
    ((0 < L.length ∧ ¬ outOf L < 0) ∧ 0 < pairsL L ∧ firstV L = outOf L ∧ firstE L = 0 ∧ 1 < (runsL L).length ∧ longF L = (longest L).1 ∧ longM L = (longest L).2 ∧ longE L = 0 ∧ ((longest L).1 ∈ runsL L ∧ 1 ≤ (longest L).2 ∧ (longest L).1 + (longest L).2 ≤ (L.length : Int))) := by
  unfold firstV firstE longF longM longE
  rcases Nat.eq_zero_or_pos L.length with h0 | h0
  · have ho : outOf L < 0 := by unfold outOf; rw [h0]; show (-1 : Int) < 0; decide
    have hp := pairs_zero (isS_out.2 ho)
    left
    rw [if_pos hv, if_pos hv, if_pos ho, if_pos ho, if_neg (by simp [h0]), if_neg (by simp [h0]), if_pos hv, if_pos h0, runsL_nil h0]
    exact ⟨h0, by omega, rfl, rfl, rfl, rfl, rfl, rfl⟩
  · have hl := longest_in h0
    by_cases ho : outOf L < 0
    · have hp := pairs_zero (isS_out.2 ho)
      right; left
      rw [if_pos hv, if_pos hv, if_pos ho, if_pos ho, if_pos ⟨hv, by omega⟩, if_pos ⟨hv, by omega⟩, if_pos hv, if_neg (by omega)]
      exact ⟨⟨h0, ho⟩, by omega, rfl, rfl, runs_few.2 ho, rfl, rfl, rfl, hl⟩
    · have hp := pairs_pos (L := L) (by cases e : isS L; rfl; exact absurd (isS_out.1 e) ho)
      right; right
      rw [if_pos hv, if_pos hv, if_neg ho, if_neg ho, if_pos ⟨hv, by omega⟩, if_pos ⟨hv, by omega⟩, if_pos hv, if_neg (by omega)]
      refine ⟨⟨h0, ho⟩, hp, rfl, rfl, ?_, rfl, rfl, rfl, hl⟩
      have : ¬ (runsL L).length < 2 := fun h => ho (runs_few.1 h)
      omega
end Go.Proofs.YtgibcacciedobaaGreatDoor
end
