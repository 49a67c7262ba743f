/- ReadLayout: the program's and the reference's. -/
import Derived.Test.YtgibcacciedobaaDoorTxQ
import Derived.Test.YtgibcacciedobaaDoorTxL
import Derived.Test.YtgibcacciedobaaDoorTxY
import Derived.StillTailTactics
import Derived.Still
import Derived.Deep.QuietTactic
import Derived.BigQuiet
namespace Go.Proofs.YtgibcacciedobaaDoor
open Go.RowKit Go.Proofs.YtgibcacciedobaaDoorW.PrintWords Go.Proofs.YtgibcacciedobaaDoorW.PrintMore
set_option linter.unusedVariables false
set_option linter.unusedSimpArgs false
set_option maxRecDepth 100000

open Classical in
/-- The layout of a text, none if there is none. -/
noncomputable def lyV (l : Bs) : List Int := if h : ∃ E, RdL l E then Classical.choose h else []
open Classical in
noncomputable def lyE (l : Bs) : Int := if ∃ E, RdL l E then 0 else 5
theorem ly_ok {l : Bs} {E : List Int} (h : RdL l E) : lyV l = E ∧ lyE l = 0 := by
  have hx : ∃ E, RdL l E := ⟨E, h⟩
  unfold lyV lyE
  rw [dif_pos hx, if_pos hx]
  exact ⟨(Classical.choose_spec hx).unique h, rfl⟩
theorem ly_no {l : Bs} (h : ∀ E, ¬ RdL l E) : lyV l = [] ∧ lyE l = 5 := by
  have hx : ¬ ∃ E, RdL l E := fun ⟨E, hE⟩ => h E hE
  unfold lyV lyE
  rw [dif_neg hx, if_neg hx]
  exact ⟨rfl, rfl⟩
theorem splitL_mem (c : UInt8) : ∀ (l : Bs) (w : Bs), w ∈ splitL c l → w.length ≤ l.length
  | [], w, h => by rw [splitL, List.mem_singleton] at h; rw [h]; exact Nat.le_refl _
  | x :: l, w, h => by
    have ih := splitL_mem c l
    rw [splitL] at h
    split at h
    · rcases List.mem_cons.1 h with rfl | h
      · exact Nat.zero_le _
      · exact Nat.le_succ_of_le (ih w h)
    · split at h
      · rw [List.mem_singleton] at h
        rw [h]
        simp
      · rename_i v r hs
        rcases List.mem_cons.1 h with rfl | h
        · have := ih v (by rw [hs]; simp)
          simp only [List.length_cons]
          omega
        · exact Nat.le_succ_of_le (ih w (by rw [hs]; simp [h]))
theorem lyV_len (l : Bs) : (lyV l).length ≤ 12 := by
  by_cases h : ∃ E, RdL l E
  · obtain ⟨E, hE⟩ := h
    rw [(ly_ok hE).1]
    exact (plE hE.1).n.2
  · rw [(ly_no (fun E hE => h ⟨E, hE⟩)).1]
    exact Nat.zero_le _
def gdW (w : Bs) : Bool := rdOk w && inR (rdN w) 0 60
set_option maxHeartbeats 4000000 in
theorem ReadLayout_c (l : Bs) (hl : l.length ≤ 1048576) (w : World) (ht : Txt w) : Calls Tryd.prog 36 #[.string (bS l)] w (RetQ w (TupI w (lyV l) (lyE l))) := by
  have HS := Aside0.mk (split_c 44 l hl w ht)
  have HT := Aside0.mk ht
  have HML := Aside0.mk (fun x hx => Nat.le_trans (splitL_mem 44 l x hx) hl)
  clear ht
  by_cases hn : 12 < (splitL 44 l).length
  · have HN := Aside0.mk (ly_no (rdl_many hn))
    have hn' : (12 : Int) < ((splitL 44 l).length : Int) := by omega
    clear hn
    generalize splitL 44 l = ws at HS HML hn'
    go_enter Tryd.func36, Tryd.ntmps36
    go_wp2_with fail
    refine HS.out.mono ?_; rintro _ w1 ⟨_, rfl, hb1, A1, c1, rfl, hc1, hC1⟩
    have HB1 := Aside0.mk hb1
    clear hb1 hC1
    go_wp2
    go_ret2
    rw [HN.out.1, HN.out.2]
    exact ⟨_, rfl, HB1.out, _, rfl, Kd.R_nil _ _ _ _ _⟩
  · have hn' : ¬ (12 : Int) < ((splitL 44 l).length : Int) := by omega
    have HG := Aside0.mk (fun (h : ∀ x, x ∈ splitL 44 l → gdW x = true) => ly_ok (rdl_all (by omega) h))
    have HBD := Aside0.mk (fun (x : Bs) (hx : x ∈ splitL 44 l) (h : gdW x = false) => ly_no (rdl_bad hx h))
    have hle : (splitL 44 l).length ≤ 12 := by omega
    clear hn
    generalize splitL 44 l = ws at HS HML HG HBD hn' hle
    go_enter Tryd.func36, Tryd.ntmps36
    go_wp2_with fail
    refine HS.out.mono ?_; rintro _ w1 ⟨_, rfl, hb1, A1, c1, rfl, hc1, hC1⟩
    have HC1 := Aside0.mk hC1
    have HB1 := Aside0.mk hb1
    clear hb1 hC1
    go_wp2_with fail
    go_loopg [5, 17] ws.length (fun gk v5 v17 wr => ∃ k : Nat, k + gk = ws.length ∧ v17 = .int .i64 k ∧ Aside0 (∀ x, x ∈ ws.take k → gdW x = true) ∧ Aside0 ((Kd.int .i64).R 2 wr w1.heap.size (fun _ => True) v5 ((ws.take k).map rdN)) ∧ Aside0 (Below w1.heap.size w1 wr))
    case atStart => exact ⟨0, by omega, rfl, ⟨by simp⟩, ⟨Kd.R_nil _ _ _ _ _⟩, ⟨Below.refl _ _⟩⟩
    case round =>
      obtain ⟨k, hk, rfl, hp, HR, hb⟩ := hrel
      have HK := Aside0.mk hk
      by_cases hlt : k < ws.length
      · obtain ⟨ad, x, rfl, hbk, hx⟩ := at_str (Kd.C_below HC1.out hb.out) k (by omega) rfl
        have HD := Aside0.mk (readDec_c x (HML.out x (mem_of hbk.out)) wr (HT.out.below (HB1.out.trans (hb.out.mono HB1.out.size))))
        have HW := Aside0.mk (fun W => within64_c (rdN x) 0 60 W)
        have HT2 := Aside0.mk (show (ws.take (k + 1)).map rdN = (ws.take k).map rdN ++ [rdN x] by rw [take_snoc hbk.out, List.map_append]; rfl)
        have hlen : ((ws.take k).map rdN).length ≤ 2097152 := by rw [List.length_map, List.length_take]; omega
        have i0 : (0 : Int) ≤ (k : Int) := by omega
        have i1 : (k : Int) < (ws.length : Int) := by omega
        have HGX := Aside0.mk (show gdW x = (rdOk x && inR (rdN x) 0 60) from rfl)
        have HBX := Aside0.mk (fun h => HBD.out x (mem_of hbk.out) h)
        clear hk
        cases ho : rdOk x
        · rw [ho] at HD HGX
          have HV := Aside0.mk (HBX.out HGX.out)
          generalize rdN x = z at HD HW HT2
          clear ho
          go_wp2_with fail
          refine HD.out.mono ?_; rintro _ w3 ⟨rfl, hb3⟩
          have HB3 := Aside0.mk (HB1.out.trans ((bstep hb.out hb3).mono HB1.out.size))
          clear hb3
          go_wp2
          go_ret2
          rw [HV.out.1, HV.out.2]
          exact ⟨_, rfl, HB3.out, _, rfl, Kd.R_nil _ _ _ _ _⟩
        · cases hr : inR (rdN x) 0 60
          · rw [ho] at HD HGX
            rw [hr] at HW HGX
            have HV := Aside0.mk (HBX.out HGX.out)
            generalize rdN x = z at HD HW HT2
            clear ho hr
            go_wp2_with fail
            refine HD.out.mono ?_; rintro _ w3 ⟨rfl, hb3⟩
            have HB3 := Aside0.mk (HB1.out.trans ((bstep hb.out hb3).mono HB1.out.size))
            clear hb3
            go_wp2_with fail
            refine (HW.out _).mono ?_; rintro _ w4 ⟨rfl, rfl⟩
            go_wp2
            go_ret2
            rw [HV.out.1, HV.out.2]
            exact ⟨_, rfl, HB3.out, _, rfl, Kd.R_nil _ _ _ _ _⟩
          · rw [ho] at HD HGX
            rw [hr] at HW HGX
            have HV := Aside0.mk (all_next (p := gdW) hp.out hbk.out HGX.out)
            generalize rdN x = z at HD HW HT2
            clear ho hr
            go_wp2_with fail
            refine HD.out.mono ?_; rintro _ w3 ⟨rfl, hb3⟩
            have HR3 := Aside0.mk (Kd.R_below HR.out hb3)
            have HB3 := Aside0.mk (bstep hb.out hb3)
            clear hb3
            go_wp2_with fail
            refine (HW.out _).mono ?_; rintro _ w4 ⟨rfl, rfl⟩
            go_wp2_with (at_builtin; refine i64_append (w := w1) rfl (.tmp 33) (.tmp 35) rfl _ ((ws.take k).map rdN) z rfl rfl HR3.out HB3.out hlen ?_; intro v1 w9 hR1 hB1 _; have HR9 := Aside0.mk hR1; have HB9 := Aside0.mk hB1; clear hR1 hB1)
            go_roundg (gk - 1)
            case measure => have := HK.out; omega
            case rel => exact ⟨k + 1, by have := HK.out; omega, by go_num, HV, ⟨by rw [HT2.out]; exact HR9.out⟩, HB9⟩
      · have hs : ws.take k = ws := List.take_of_length_le (by omega)
        have hp9 := hp.out
        rw [hs] at HR hp9
        have HV := Aside0.mk (HG.out hp9)
        clear hk hs hp9
        go_wp2
        go_ret2
        rw [HV.out.1, HV.out.2]
        exact ⟨_, rfl, HB1.out.trans (hb.out.mono HB1.out.size), _, rfl, Kd.R_lower HR.out HB1.out.size⟩
set_option maxHeartbeats 4000000 in
theorem specReadLayout_c (l : Bs) (hl : l.length ≤ 1048576) (w : World) : Calls Tryd.prog 35 #[.string (bS l)] w (RetQ w (TupI w (lyV l) (lyE l))) := by
  have HS := Aside0.mk (l01Split_c 44 44 rfl l hl w)
  have HML := Aside0.mk (fun x hx => Nat.le_trans (splitL_mem 44 l x hx) hl)
  have HG := Aside0.mk (fun (h : ∀ x, x ∈ splitL 44 l → nmK x = true) (hp : plainE ((splitL 44 l).map nmV) = true) => ly_ok (l := l) (E := (splitL 44 l).map nmV) ⟨hp, rdl_num (fun x hx => Option.isSome_iff_exists.1 (h x hx))⟩)
  have HGN := Aside0.mk (fun (h : ∀ x, x ∈ splitL 44 l → nmK x = true) (hp : plainE ((splitL 44 l).map nmV) = false) => ly_no (rdl_notPlain (fun x hx => Option.isSome_iff_exists.1 (h x hx)) hp))
  have HBD := Aside0.mk (fun (x : Bs) (hx : x ∈ splitL 44 l) (h : nmK x = false) => ly_no (rdl_numNone hx (Option.isNone_iff_eq_none.1 (by unfold nmK at h; rw [Option.isNone_iff_eq_none]; cases hn : numL x with | none => rfl | some n => rw [hn] at h; cases h))))
  have hle := splitL_len 44 l
  generalize splitL 44 l = ws at HS HML HG HGN HBD hle
  go_enter Tryd.func35, Tryd.ntmps35
  go_wp2_with fail
  refine HS.out.mono ?_; rintro _ w1 ⟨_, rfl, hb1, A1, c1, rfl, hc1, hC1⟩
  have HC1 := Aside0.mk hC1
  have HB1 := Aside0.mk hb1
  clear hb1 hC1
  go_wp2_with fail
  have HR0 := Aside0.mk (R_zero (Kd.int .i64) 2 w1 w1.heap.size (fun _ => True) (Nat.le_refl _) trivial)
  have HBZ := Aside0.mk (balloc (Below.refl w1.heap.size w1) (.cells #[] 2))
  go_loopg [5, 6] ws.length (fun gk v5 v6 wr => ∃ k : Nat, k + gk = ws.length ∧ v6 = .int .i64 k ∧ Aside0 (∀ x, x ∈ ws.take k → nmK x = true) ∧ Aside0 ((Kd.int .i64).R 2 wr w1.heap.size (fun _ => True) v5 ((ws.take k).map nmV)) ∧ Aside0 (Below w1.heap.size w1 wr))
  case atStart => exact ⟨0, by omega, rfl, ⟨by simp⟩, HR0, HBZ⟩
  case round =>
    clear HR0 HBZ
    obtain ⟨k, hk, rfl, hp, HR, hb⟩ := hrel
    have HK := Aside0.mk hk
    by_cases hlt : k < ws.length
    · obtain ⟨ad, x, rfl, hbk, hx⟩ := at_str (Kd.C_below HC1.out hb.out) k (by omega) rfl
      have HD := Aside0.mk (l01Number_c x (HML.out x (mem_of hbk.out)) wr)
      have HT2 := Aside0.mk (show (ws.take (k + 1)).map nmV = (ws.take k).map nmV ++ [nmV x] by rw [take_snoc hbk.out, List.map_append]; rfl)
      have hlen : ((ws.take k).map nmV).length ≤ 2097152 := by rw [List.length_map, List.length_take]; omega
      have i0 : (0 : Int) ≤ (k : Int) := by omega
      have i1 : (k : Int) < (ws.length : Int) := by omega
      have HBX := Aside0.mk (fun h => HBD.out x (mem_of hbk.out) h)
      clear hk
      cases ho : nmK x
      · have HV := Aside0.mk (HBX.out ho)
        rw [ho] at HD
        generalize nmV x = z at HD HT2
        clear ho
        go_wp2_with fail
        refine HD.out.mono ?_; rintro _ w3 ⟨rfl, hb3⟩
        have HB3 := Aside0.mk (HB1.out.trans ((bstep hb.out hb3).mono HB1.out.size))
        clear hb3
        go_wp2
        go_ret2
        rw [HV.out.1, HV.out.2]
        exact ⟨_, rfl, balloc HB3.out _, _, rfl, R_zero (Kd.int .i64) 2 w3 w.heap.size (fun _ => True) HB3.out.size trivial⟩
      · have HV := Aside0.mk (all_next (p := nmK) hp.out hbk.out ho)
        rw [ho] at HD
        generalize nmV x = z at HD HT2
        clear ho
        go_wp2_with fail
        refine HD.out.mono ?_; rintro _ w3 ⟨rfl, hb3⟩
        have HR3 := Aside0.mk (Kd.R_below HR.out hb3)
        have HB3 := Aside0.mk (bstep hb.out hb3)
        clear hb3
        go_wp2_with (at_builtin; refine i64_append (w := w1) rfl (.tmp 29) (.tmp 31) rfl _ ((ws.take k).map nmV) z rfl rfl HR3.out HB3.out hlen ?_; intro v1 w9 hR1 hB1 _; have HR9 := Aside0.mk hR1; have HB9 := Aside0.mk hB1; clear hR1 hB1)
        go_roundg (gk - 1)
        case measure => have := HK.out; omega
        case rel => exact ⟨k + 1, by have := HK.out; omega, by go_num, HV, ⟨by rw [HT2.out]; exact HR9.out⟩, HB9⟩
    · have hs : ws.take k = ws := List.take_of_length_le (by omega)
      have hp9 := hp.out
      rw [hs] at HR hp9
      obtain ⟨A9, c9, rfl, hc9, hC9⟩ := Kd.R_reads HR.out
      have HPL := Aside0.mk (l02Plain_c A9 c9 (ws.map nmV) wr hC9)
      have HB9 := Aside0.mk (HB1.out.trans (hb.out.mono HB1.out.size))
      have HR9 := Aside0.mk (Kd.R_lower HR.out HB1.out.size)
      have HP9 := Aside0.mk hp9
      clear hk hs hp9 hC9
      cases hpl : plainE (ws.map nmV)
      · have HV := Aside0.mk (HGN.out HP9.out hpl)
        rw [hpl] at HPL
        clear hpl
        generalize ws.map nmV = E at HPL HR9 hc9 ⊢
        go_wp2_with fail
        refine HPL.out.mono ?_; rintro _ w4 ⟨rfl, hb4⟩
        have HB4 := Aside0.mk (bstep HB9.out hb4)
        clear hb4
        go_wp2
        go_ret2
        rw [HV.out.1, HV.out.2]
        exact ⟨_, rfl, balloc HB4.out _, _, rfl, R_zero (Kd.int .i64) 2 w4 w.heap.size (fun _ => True) HB4.out.size trivial⟩
      · have HV := Aside0.mk (HG.out HP9.out hpl)
        rw [hpl] at HPL
        clear hpl
        generalize ws.map nmV = E at HPL HR9 HV hc9 ⊢
        go_wp2_with fail
        refine HPL.out.mono ?_; rintro _ w4 ⟨rfl, hb4⟩
        have HB4 := Aside0.mk (bstep HB9.out hb4)
        have HR10 := Aside0.mk (Kd.R_below HR9.out hb4)
        clear hb4
        go_wp2
        go_ret2
        rw [HV.out.1, HV.out.2]
        exact ⟨_, rfl, HB4.out, _, rfl, HR10.out⟩
end Go.Proofs.YtgibcacciedobaaDoor
