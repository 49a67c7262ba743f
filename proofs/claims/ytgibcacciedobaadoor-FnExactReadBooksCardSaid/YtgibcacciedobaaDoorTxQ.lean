/- Texts parted at a sign: the library's Split, and the reference's own. -/
import Derived.Test.YtgibcacciedobaaDoorTxU
import Derived.StillTailTactics
import Derived.Still
import Derived.Deep.QuietTactic
import Derived.BigQuiet
import Derived.Lib.SplitLaws
namespace Go.Proofs.YtgibcacciedobaaDoor
open Go.RowKit Go.Proofs.YtgibcacciedobaaDoorW.PrintWords Go.Proofs.YtgibcacciedobaaDoorW.PrintMore
set_option linter.unusedVariables false
set_option linter.unusedSimpArgs false
set_option maxRecDepth 100000

theorem ext_bS (l : Bs) (a b : Nat) : (bS l).extract a b = bS ((l.take b).drop a) := by
  rw [← bS_of ((bS l).extract a b), Go.Lib.extract_data, bS_toList, List.drop_take]
theorem splitB_bS (c : UInt8) (l : Bs) : Go.Lib.splitB (bS [c]) 0 (Go.Lib.countB (bS l) (bS [c])) (bS l) = (splitL c l).map bS := by
  have h := splitB_one c (bS l)
  rw [bS_toList] at h
  rw [← h, List.map_map]
  exact (map_back (fun x _ => bS_of x)).symm
theorem countB_bS (c : UInt8) (l : Bs) : Go.Lib.countB (bS l) (bS [c]) + 1 = (splitL c l).length := by
  have h := Go.Lib.splitB_all (bS [c]) (by rw [bS_size]; exact Nat.le_refl _) 0 _ (bS l) rfl
  rw [splitB_bS, List.length_map] at h
  exact h.symm
theorem splitL_len (c : UInt8) : ∀ l : Bs, (splitL c l).length ≤ l.length + 1
  | [] => Nat.le_refl _
  | x :: l => by
    have ih := splitL_len c l
    rw [splitL]
    split
    · simp only [List.length_cons]; omega
    · split
      · simp
      · rename_i w r h
        rw [h] at ih
        simp only [List.length_cons] at ih ⊢
        omega
/-- A row of texts that a literal lays. -/
theorem lit_C (W : World) (xs : List ByteArray) (hn : xs.length ≤ 2097152) : Kd.string.C (W.alloc (.cells (xs.map Value.string).toArray 9)) (some ⟨W.heap.size, 0, none⟩) xs.length xs := by
  have h1 := World.ownsRow_lit (base := 0) (e := 9) (size := 1) W (xs.map Value.string).toArray xs.length (Nat.zero_le _) (by unfold maxLen; omega) (by simp)
  have h2 : Kd.string.R 9 (W.alloc (.cells (xs.map Value.string).toArray 9)) 0 (fun _ => True) (.slice (some ⟨W.heap.size, 0, none⟩) xs.length xs.length) xs :=
    Kd.R_of_own (enc := Value.string) (h1 := fun _ => rfl) (by simpa [Go.Proofs.YtgibcacciedobaaDoorW.PrintWords.encs] using h1) (fun _ _ => trivial)
  exact (Kd.R_reads' h2).2.2
/-- Pieces handed back. -/
def NewP (w : World) (ws : List Bs) (v : Value) (w' : World) : Prop := ∃ A c, v = .slice A ws.length c ∧ ws.length ≤ c ∧ Kd.string.C w' A ws.length (ws.map bS)
theorem split_c (c : UInt8) (l : Bs) (hl : l.length ≤ 1048576) (w : World) (ht : Txt w) : Calls Tryd.prog 70 #[.string (bS l), .string (bS [c])] w (RetQ w (NewP w (splitL c l))) := by
  obtain ⟨m, hm⟩ := ht.mx
  refine (Tryd.strings_Split (bS l) (bS [c]) m w (by rw [bS_size]; omega) hm (by rw [bS_size]; exact Nat.le_refl _)).mono ?_
  rintro e w' ⟨rfl, rfl⟩
  rw [countB_bS]
  refine ⟨_, rfl, balloc (Below.refl _ _) _, _, _, rfl, Nat.le_refl _, ?_⟩
  have h := lit_C w ((splitL c l).map bS) (by rw [List.length_map]; have := splitL_len c l; omega)
  rw [splitB_bS]
  rw [List.length_map] at h
  exact h
theorem at_str {ws : List Bs} {w : World} {A : Option Addr} {n : Nat} (h : Kd.string.C w A n (ws.map bS)) (i : Nat) (hi : i < n) (hn : n = ws.length) :
    ∃ ad x, A = some ad ∧ Aside0 (ws[i]? = some x) ∧ w.cell? (ad.add i) = some (.string (bS x)) := by
  obtain ⟨ad, e, hx⟩ := Kd.at_string h (i : Int) (by omega) (by omega)
  have hl : i < ws.length := by omega
  refine ⟨ad, ws[i], e, ⟨List.getElem?_eq_getElem hl⟩, ?_⟩
  rw [Int.toNat_natCast] at hx
  rw [hx]
  unfold Go.Proofs.YtgibcacciedobaaDoorW.PrintWords.rdOf
  rw [Int.toNat_natCast, List.getD_eq_getElem?_getD, List.getElem?_map, List.getElem?_eq_getElem hl]
  rfl
/-- How far the reference has parted a text. -/
structure SpI (c : UInt8) (l : Bs) (k b : Nat) (P : List Bs) (cur : Bs) : Prop where
  e : splitL c l = P ++ splitL c (cur ++ l.drop k)
  no : c ∉ cur
  cur : cur = (l.take k).drop b
  le : b ≤ k
  n : P.length ≤ k
theorem SpI.hit {c : UInt8} {l : Bs} {k b : Nat} {P : List Bs} {cur : Bs} (h : SpI c l k b P cur) (hx : l[k]? = some c) : SpI c l (k + 1) (k + 1) (P ++ [cur]) [] := by
  have hk := (List.getElem?_eq_some_iff.1 hx).1
  have he := (List.getElem?_eq_some_iff.1 hx).2
  refine ⟨?_, List.not_mem_nil, ?_, Nat.le_refl _, by have := h.n; rw [List.length_append, List.length_singleton]; omega⟩
  · rw [h.e, List.drop_eq_getElem_cons hk, he, splitL_cons _ h.no, List.append_assoc]
    rfl
  · rw [List.drop_of_length_le (by rw [List.length_take]; omega)]
theorem SpI.miss {c x : UInt8} {l : Bs} {k b : Nat} {P : List Bs} {cur : Bs} (h : SpI c l k b P cur) (hx : l[k]? = some x) (hc : x ≠ c) : SpI c l (k + 1) b P (cur ++ [x]) := by
  have hk := (List.getElem?_eq_some_iff.1 hx).1
  have he := (List.getElem?_eq_some_iff.1 hx).2
  refine ⟨?_, ?_, ?_, by have := h.le; omega, by have := h.n; omega⟩
  · rw [h.e, List.drop_eq_getElem_cons hk, he, List.append_assoc]
    rfl
  · intro hm
    rcases List.mem_append.1 hm with hm | hm
    · exact h.no hm
    · exact hc (List.mem_singleton.1 hm).symm
  · rw [take_snoc hx, List.drop_append_of_le_length (by rw [List.length_take]; have := h.le; omega), ← h.cur]
theorem SpI.done {c : UInt8} {l : Bs} {b : Nat} {P : List Bs} {cur : Bs} (h : SpI c l l.length b P cur) : splitL c l = P ++ [cur] := by
  rw [h.e, List.drop_length, List.append_nil, splitL_none h.no]
set_option maxHeartbeats 4000000 in
theorem l01Split_c (c : UInt8) (n : Int) (hn : (c.toNat : Int) = n) (l : Bs) (hl : l.length ≤ 1048576) (w : World) : Calls Tryd.prog 52 #[.string (bS l), .int .u8 n] w (RetQ w (NewP w (splitL c l))) := by
  have hsz : (bS l).size = l.length := bS_size l
  have HR0 := Aside0.mk (R_zero Kd.string 9 w w.heap.size (fun _ => True) (Nat.le_refl _) trivial)
  have HBZ := Aside0.mk (balloc (Below.refl w.heap.size w) (.cells #[] 9))
  have HN := Aside0.mk hn
  clear hn
  go_enter Tryd.func52, Tryd.ntmps52
  go_wp2_with fail
  go_loopg [5, 6, 7] l.length (fun gk v5 v6 v7 wr => ∃ (k b : Nat) (P : List Bs) (cur : Bs), k + gk = l.length ∧ v7 = .int .i64 k ∧ v6 = .int .i64 b ∧ Aside0 (SpI c l k b P cur) ∧ Aside0 (Kd.string.R 9 wr w.heap.size (fun _ => True) v5 (P.map bS)) ∧ Aside0 (Below w.heap.size w wr))
  case atStart => exact ⟨0, 0, [], [], by omega, rfl, rfl, ⟨⟨rfl, List.not_mem_nil, rfl, Nat.le_refl _, Nat.le_refl _⟩⟩, HR0, HBZ⟩
  case round =>
    clear HR0 HBZ
    obtain ⟨k, b, P, cur, hk, rfl, rfl, HS, HR, hb⟩ := hrel
    have HK := Aside0.mk hk
    have hbk := HS.out.le
    have hPl : (P.map bS).length ≤ 2097152 := by rw [List.length_map]; have := HS.out.n; omega
    have i0 : (0 : Int) ≤ (b : Int) := by omega
    have i1 : (b : Int) ≤ (k : Int) := by omega
    by_cases hlt : k < l.length
    · obtain ⟨x, hx⟩ : ∃ x, l[k]? = some x := ⟨_, List.getElem?_eq_getElem hlt⟩
      have hat := bS_at hx
      have HX := Aside0.mk hx
      have i2 : (0 : Int) ≤ (k : Int) := by omega
      have i3 : (k : Int) < (l.length : Int) := by omega
      have i4 : (k : Int) ≤ (l.length : Int) := by omega
      clear hk hx
      by_cases hc : x = c
      · subst hc
        have hq : ((x.toNat : Int) == n) = true := by rw [HN.out]; exact beq_self_eq_true _
        have HSH := Aside0.mk (HS.out.hit HX.out)
        have HEX := Aside0.mk (show (P.map bS) ++ [(bS l).extract b k] = (P ++ [cur]).map bS by rw [ext_bS, ← HS.out.cur, List.map_append]; rfl)
        go_wp2_with (at_builtin; refine str_append (w := w) rfl (.tmp 20) (.tmp 25) rfl _ (P.map bS) ((bS l).extract b k) rfl rfl HR.out hb.out hPl ?_; intro v1 w9 hR1 hB1 _; have HR9 := Aside0.mk hR1; have HB9 := Aside0.mk hB1; clear hR1 hB1)
        go_roundg (gk - 1)
        case measure => have := HK.out; omega
        case rel => exact ⟨k + 1, k + 1, P ++ [cur], [], by have := HK.out; omega, by go_num, by go_num, HSH, ⟨by rw [← HEX.out]; exact HR9.out⟩, HB9⟩
      · have hq : ((x.toNat : Int) == n) = false := beq_eq_false_iff_ne.2 (by rw [← HN.out]; intro e; exact hc (UInt8.toNat_inj.1 (by omega)))
        have HSH := Aside0.mk (HS.out.miss HX.out hc)
        clear hc
        go_wp2_with fail
        go_roundg (gk - 1)
        case measure => have := HK.out; omega
        case rel => exact ⟨k + 1, b, P, cur ++ [x], by have := HK.out; omega, by go_num, rfl, HSH, HR, hb⟩
    · obtain rfl : k = l.length := by omega
      have HD := Aside0.mk HS.out.done
      have HEX := Aside0.mk (show (P.map bS) ++ [(bS l).extract b l.length] = (splitL c l).map bS by rw [HD.out, ext_bS, ← HS.out.cur, List.map_append]; rfl)
      clear hk
      go_wp2_with (at_builtin; refine str_append (w := w) rfl (.tmp 29) (.tmp 33) rfl _ (P.map bS) ((bS l).extract b l.length) rfl rfl HR.out hb.out hPl ?_; intro v1 w9 hR1 hB1 _; have HR9 := Aside0.mk hR1; have HB9 := Aside0.mk hB1; clear hR1 hB1)
      go_ret
      have h9 := HR9.out
      rw [HEX.out] at h9
      obtain ⟨A, d, e1, e2, e3⟩ := Kd.R_reads h9
      rw [List.length_map] at e1 e2 e3
      exact ⟨_, rfl, HB9.out, A, d, e1, e2, e3⟩
end Go.Proofs.YtgibcacciedobaaDoor
