/- ReadBooks: the reference's. -/
import Derived.Test.YtgibcacciedobaaDoorTxX
import Derived.Test.YtgibcacciedobaaDoorTxN
import Derived.Test.YtgibcacciedobaaDoorRow
import Derived.Test.YtgibcacciedobaaDoorMarkB
import Derived.StillTailTactics
import Derived.Still
import Derived.Deep.QuietTactic
import Derived.BigQuiet
namespace Go.Proofs.YtgibcacciedobaaDoor
open Go.RowKit Go.Proofs.YtgibcacciedobaaDoorW.PrintWords Go.Proofs.YtgibcacciedobaaDoorW.PrintMore
set_option linter.unusedVariables false
set_option linter.unusedSimpArgs false
set_option maxRecDepth 100000

open Classical in
/-- The list of a text, none if there is none. -/
noncomputable def lsV (l : Bs) : List Bk := if h : ∃ L, RdLs l L then Classical.choose h else []
open Classical in
noncomputable def lsE (l : Bs) : Int := if ∃ L, RdLs l L then 0 else 5
theorem ls_of {l : Bs} {L : List Bk} {n : Int} (h : LsR l L n 5) : lsV l = L ∧ lsE l = n := by
  rcases h with ⟨rfl, h⟩ | ⟨rfl, rfl, h⟩
  · have hx : ∃ L, RdLs l L := ⟨L, h⟩
    unfold lsV lsE
    rw [dif_pos hx, if_pos hx]
    exact ⟨(Classical.choose_spec hx).unique h, rfl⟩
  · have hx : ¬ ∃ L, RdLs l L := fun ⟨L, hL⟩ => h L hL
    unfold lsV lsE
    rw [dif_neg hx, if_neg hx]
    exact ⟨rfl, rfl⟩
theorem lsV_len (l : Bs) : (lsV l).length ≤ 60 := by
  by_cases h : ∃ L, RdLs l L
  · obtain ⟨L, hL⟩ := h
    rw [(ls_of (.inl ⟨rfl, hL⟩)).1]
    exact hL.1
  · rw [(ls_of (.inr ⟨rfl, rfl, fun L hL => h ⟨L, hL⟩⟩)).1]
    exact Nat.zero_le _
theorem bk_yes {l : Bs} (h : bkK l = true) : RdB l (bkV l) := by
  by_cases hx : ∃ b, RdB l b
  · obtain ⟨b, hb⟩ := hx
    rw [(bk_ok hb).1]
    exact hb
  · rw [(bk_no (fun b hb => hx ⟨b, hb⟩)).2] at h
    cases h
theorem bk_none {l : Bs} (h : bkK l = false) (b : Bk) : ¬ RdB l b := fun hb => by
  rw [(bk_ok hb).2] at h
  cases h
theorem ls_all {l : Bs} {ws : List Bs} (h : splitL 10 l = ws ++ [[]]) (hn : ws.length ≤ 60) (hk : ∀ w, w ∈ ws → bkK w = true) : lsV l = ws.map bkV ∧ lsE l = 0 := by
  refine ls_of (ls_ok ?_ (by rw [List.length_map]; exact hn) ?_ 5)
  · rw [h, List.map_map]
    congr 1
    exact (map_back (fun w hw => (bk_yes (hk w hw)).2)).symm
  · intro b hb
    obtain ⟨w, hw, rfl⟩ := List.mem_map.1 hb
    exact (bk_yes (hk w hw)).1
theorem bkE_no {l : Bs} (h : bkK l = false) : bkE l = 5 := by unfold bkE; rw [h]; rfl
theorem bkE_yes {l : Bs} (h : bkK l = true) : bkE l = 0 := by unfold bkE; rw [h]; rfl
theorem tupB_no {w W W' : World} {l : Bs} (h : lsV l = [] ∧ lsE l = 5) (hb : Below w.heap.size w W) (hW : W' = W.alloc (.cells #[] 27)) : TupB w (lsV l) (lsE l) (.tuple #[.slice (some ⟨W.heap.size, 0, none⟩) 0 0, .int .i64 5]) W' := by
  rw [h.1, h.2, hW]
  exact ⟨_, rfl, R_zero kBk 27 W w.heap.size (fun _ => True) hb.size trivial⟩
theorem wrap64_low {n : Int} (h0 : 0 ≤ n) (h1 : n ≤ 9223372036854775807) : wrap64 n = n := by
  unfold wrap64
  omega
set_option maxHeartbeats 1000000 in
theorem specReadBooks_c (l : Bs) (hl : l.length ≤ 1048576) (w : World) : Calls Tryd.prog 22 #[.string (bS l)] w (RetQ w (TupB w (lsV l) (lsE l))) := by
  obtain ⟨ws, a, -, -, -, hs, -⟩ := lines_of l
  have HS := Aside0.mk (l01Split_c 10 10 rfl l hl w)
  have HML := Aside0.mk (fun x hx => Nat.le_trans (splitL_mem 10 l x hx) hl)
  have hle := splitL_len 10 l
  have HBD := Aside0.mk (fun h => ls_of (ls_bad hs h 5))
  have HGD := Aside0.mk (fun (h : a = []) (hn : ws.length ≤ 60) (hk : ∀ w, w ∈ ws → bkK w = true) => ls_all (by rw [hs, h]) hn hk)
  obtain ⟨xs, hxs⟩ : ∃ xs, ws ++ [a] = xs := ⟨_, rfl⟩
  rw [hs, hxs] at HS HML hle
  have HN1 := Aside0.mk (show xs.length = ws.length + 1 by rw [← hxs]; simp)
  have z0 : (0 : Int) ≤ (xs.length : Int) - 1 := by have := HN1.out; omega
  have z4 : (1 : Int) ≤ (xs.length : Int) := by have := HN1.out; omega
  have z5 : 1 ≤ xs.length := by have := HN1.out; omega
  have z1 : (ws.length : Int) < (xs.length : Int) := by have := HN1.out; omega
  have z2 : ws.length < xs.length := by have := HN1.out; omega
  have HLA := Aside0.mk (show xs[ws.length]? = some a by rw [← hxs]; simp)
  have HAT := Aside0.mk (fun (k : Nat) (t : Bs) (h : ws[k]? = some t) => show xs[k]? = some t by rw [← hxs, List.getElem?_append_left (List.getElem?_eq_some_iff.1 h).1]; exact h)
  clear hs hxs
  cases hae : (bS a).toList.isEmpty
  · have ha : a ≠ [] := fun h => by rw [h, bS_list] at hae; cases hae
    have hae2 : ¬ (bS a).toList = [] := fun h => ha (by rw [bS_list] at h; exact h)
    have HN := Aside0.mk (HBD.out (.inl ha))
    clear ha
    go_enter Tryd.func22, Tryd.ntmps22
    go_wp2_with fail
    refine HS.out.mono ?_; rintro _ w1 ⟨_, rfl, hb1, A1, c1, rfl, hc1, hC1⟩
    obtain ⟨ad, x, rfl, hx, e1⟩ := at_str hC1 ws.length z2 rfl
    obtain rfl : x = a := by have h1 := hx.out; rw [HLA.out] at h1; exact (Option.some.inj h1).symm
    have HB1 := Aside0.mk hb1
    have e1 : w1.cell? (ad.add (xs.length - 1)) = some (.string (bS x)) := by rw [show xs.length - 1 = ws.length by have := HN1.out; omega]; exact e1
    clear hb1 hC1 hx
    go_wp2
    go_ret2
    exact ⟨_, rfl, balloc HB1.out _, tupB_no HN.out HB1.out rfl⟩
  · have ha : a = [] := by rw [bS_list] at hae; simpa using hae
    have hae2 : (bS a).toList = [] := by rw [bS_list]; exact ha
    by_cases h60 : 60 < ws.length
    · have HN := Aside0.mk (HBD.out (.inr (.inl h60)))
      have hi60 : (60 : Int) < (xs.length : Int) - 1 := by have := HN1.out; omega
      clear ha
      go_enter Tryd.func22, Tryd.ntmps22
      go_wp2_with fail
      refine HS.out.mono ?_; rintro _ w1 ⟨_, rfl, hb1, A1, c1, rfl, hc1, hC1⟩
      obtain ⟨ad, x, rfl, hx, e1⟩ := at_str hC1 ws.length z2 rfl
      obtain rfl : x = a := by have h1 := hx.out; rw [HLA.out] at h1; exact (Option.some.inj h1).symm
      have HB1 := Aside0.mk hb1
      have e1 : w1.cell? (ad.add (xs.length - 1)) = some (.string (bS x)) := by rw [show xs.length - 1 = ws.length by have := HN1.out; omega]; exact e1
      clear hb1 hC1 hx
      go_wp2
      go_ret2
      exact ⟨_, rfl, balloc HB1.out _, tupB_no HN.out HB1.out rfl⟩
    · have hi60 : ¬ (60 : Int) < (xs.length : Int) - 1 := by have := HN1.out; omega
      have HG := Aside0.mk (HGD.out ha (by omega))
      have HSB := Aside0.mk (fun (t : Bs) (h : t.length ≤ 1048576) W => specReadBook_c t h W)
      have HBW := Aside0.mk (fun (t : Bs) (hm : t ∈ ws) (h : bkK t = false) => HBD.out (.inr (.inr ⟨t, hm, bk_none h⟩)))
      clear ha
      simp only [Bk.val] at HSB
      go_enter Tryd.func22, Tryd.ntmps22
      go_wp2_with fail
      refine HS.out.mono ?_; rintro _ w1 ⟨_, rfl, hb1, A1, c1, rfl, hc1, hC1⟩
      obtain ⟨ad, x, rfl, hx, e1⟩ := at_str hC1 ws.length z2 rfl
      obtain rfl : x = a := by have h1 := hx.out; rw [HLA.out] at h1; exact (Option.some.inj h1).symm
      have HB1 := Aside0.mk hb1
      have e1 : w1.cell? (ad.add (xs.length - 1)) = some (.string (bS x)) := by rw [show xs.length - 1 = ws.length by have := HN1.out; omega]; exact e1
      have HC1 := Aside0.mk hC1
      clear hb1 hC1 hx
      go_wp2_with fail
      have HR0 := Aside0.mk (R_zero kBk 27 w1 w1.heap.size (fun _ => True) (Nat.le_refl _) trivial)
      have HBZ := Aside0.mk (balloc (Below.refl w1.heap.size w1) (.cells #[] 27))
      go_loopg [6, 7] ws.length (fun gk v6 v7 wr => ∃ k : Nat, k + gk = ws.length ∧ v7 = .int .i64 k ∧ Aside0 (∀ t, t ∈ ws.take k → bkK t = true) ∧ Aside0 (kBk.R 27 wr w1.heap.size (fun _ => True) v6 ((ws.take k).map bkV)) ∧ Aside0 (Below w1.heap.size w1 wr))
      case atStart => exact ⟨0, by omega, rfl, ⟨by simp⟩, HR0, HBZ⟩
      case round =>
        clear HR0 HBZ
        obtain ⟨k, hk, rfl, hp, HR, hb⟩ := hrel
        have HK := Aside0.mk hk
        by_cases hlt : k < ws.length
        · obtain ⟨t, hbk⟩ : ∃ t, ws[k]? = some t := ⟨_, List.getElem?_eq_getElem hlt⟩
          obtain ⟨ad', x, had, hx, e1⟩ := at_str (Kd.C_below HC1.out hb.out) k (by omega) rfl
          cases had
          obtain rfl : x = t := by have h1 := hx.out; rw [HAT.out k t hbk] at h1; exact (Option.some.inj h1).symm
          have HBK := Aside0.mk hbk
          have HD := Aside0.mk (HSB.out x (HML.out x (mem_of hx.out)) wr)
          have HV2 := Aside0.mk (show (ws.take (k + 1)).map bkV = (ws.take k).map bkV ++ [bkV x] by rw [take_snoc hbk, List.map_append]; rfl)
          have hlen : ((ws.take k).map bkV).length ≤ 2097152 := by rw [List.length_map, List.length_take]; omega
          have i0 : (0 : Int) ≤ (k : Int) := by omega
          have i1 : (k : Int) < (xs.length : Int) := by omega
          have i2 : (k : Int) < (xs.length : Int) - 1 := by have := HN1.out; omega
          have i3 : k < xs.length := by omega
          clear hk hbk hx
          cases ho : bkK x
          · have HN := Aside0.mk (HBW.out x (mem_of HBK.out) ho)
            rw [bkE_no ho] at HD
            generalize bkV x = b at HD HV2
            clear ho
            go_wp2_with fail
            refine HD.out.mono ?_; rintro _ w3 ⟨rfl, hb3⟩
            have HB3 := Aside0.mk (HB1.out.trans ((bstep hb.out hb3).mono HB1.out.size))
            clear hb3
            go_wp2
            go_ret2
            exact ⟨_, rfl, balloc (balloc HB3.out _) _, by have h9 := tupB_no HN.out (balloc HB3.out (.cells (bkCs b) 27)) rfl; rw [World.size_alloc] at h9; exact h9⟩
          · have HP := Aside0.mk (all_next (p := bkK) hp.out HBK.out ho)
            rw [bkE_yes ho] at HD
            generalize bkV x = b at HD HV2
            clear ho
            go_wp2_with fail
            refine HD.out.mono ?_; rintro _ w3 ⟨rfl, hb3⟩
            have HR3 := Aside0.mk (Kd.R_alloc (Kd.R_below HR.out hb3) (.cells (bkCs b) 27))
            have HB3 := Aside0.mk (balloc (bstep hb.out hb3) (.cells (bkCs b) 27))
            have hx3 := blk_new w3 (.cells (bkCs b) 27)
            have HSZ := Aside0.mk (show w3.heap.size + 1 = (w3.alloc (.cells (bkCs b) 27)).heap.size from (World.size_alloc _ _).symm)
            clear hb3 hx3
            go_wp2_with (at_builtin; rw [HSZ.out]; refine bk_append (w := w1) rfl (.tmp 42) (.tmp 44) rfl _ ((ws.take k).map bkV) b rfl rfl HR3.out HB3.out hlen ?_; intro v1 w9 hR1 hB1 _; have HR9 := Aside0.mk hR1; have HB9 := Aside0.mk hB1; clear hR1 hB1)
            go_roundg (gk - 1)
            case measure => have := HK.out; omega
            case rel => exact ⟨k + 1, by have := HK.out; omega, by go_num, HP, ⟨by rw [HV2.out]; exact HR9.out⟩, HB9⟩
        · have hs : ws.take k = ws := List.take_of_length_le (by omega)
          have hp9 := hp.out
          rw [hs] at HR hp9
          have HN := Aside0.mk (HG.out hp9)
          have i2 : ¬ (k : Int) < (xs.length : Int) - 1 := by have := HN1.out; omega
          clear hk hs hp9
          go_wp2
          go_ret2
          rw [HN.out.1, HN.out.2]
          exact ⟨_, rfl, HB1.out.trans (hb.out.mono HB1.out.size), _, rfl, Kd.R_lower HR.out HB1.out.size⟩
end Go.Proofs.YtgibcacciedobaaDoor
