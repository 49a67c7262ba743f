/- The table of least sums: the program's walk. -/
import Derived.Test.YtdippdkneeocfaaTabD
import Derived.StillTailTactics
import Derived.Still
import Derived.Deep.QuietTactic
import Derived.BigQuiet
import Derived.Deep.RegionHeld3
import Derived.Deep.RegionLaw
namespace Go.Proofs.Ytdippdkneeocfaa
open Go.RowKit Go.Proofs.YtdippdkneeocfaaW.PrintWords Go.Proofs.YtdippdkneeocfaaW.PrintMore
set_option linter.unusedVariables false
set_option linter.unusedSimpArgs false
set_option maxRecDepth 100000

theorem OwnT.lower {w0 w1 w : World} {v : Value} {X : List SlH} {T : List (List Int)} (h : OwnT w1 w v X T) (hle : w0.heap.size ≤ w1.heap.size) : OwnT w0 w v X T :=
  ⟨Kd.R_lower h.out hle, h.len, fun j x r h1 h2 => Kd.R_lower (h.row j x r h1 h2) hle, h.ap⟩
def NewTO (w : World) (T : List (List Int)) (v : Value) (w' : World) : Prop := ∃ X, OwnT w w' v X T
theorem lit_i64 (W : World) (x : Int) : (Kd.int .i64).C (W.alloc (.cells #[.int .i64 x] 2)) (some ⟨W.heap.size, 0, none⟩) 1 [x] :=
  (Kd.R_reads' (row_i64 (base := 0) (cur := [.int .i64 x]) (X := [x]) (n := 1) (cap := 1) (Nat.zero_le _) (heap_alloc_new W _) rfl (Nat.le_refl _) (by decide) rfl rfl)).2.2
theorem rep_n (n : Nat) (hn : n ≤ 999) (x : Int) (w : World) : Calls Try.prog 181 #[.slice (some ⟨w.heap.size, 0, none⟩) 1 1, .int .i64 ((n : Int) + 1)] (w.alloc (.cells #[.int .i64 x] 2)) (RetQ (w.alloc (.cells #[.int .i64 x] 2)) (NewI64 (w.alloc (.cells #[.int .i64 x] 2)) (List.replicate (n + 1) x))) := by
  have h := rep_c (some ⟨w.heap.size, 0, none⟩) 1 x (n + 1) (by omega) (by omega) _ (lit_i64 w x)
  rw [show ((n + 1 : Nat) : Int) = (n : Int) + 1 by omega] at h
  exact h
theorem row_open {n : Nat} {w0 w : World} {x : Int} {v : Value} (h : NewI64 w0 (List.replicate (n + 1) x) v w) : ∃ g cap, v = .slice (some ⟨g, 0, none⟩) (n + 1) cap ∧ w0.heap.size ≤ g ∧ n + 1 ≤ cap ∧ cap ≤ maxLen := by
  obtain ⟨g, cap, e, hg, _⟩ := Kd.R_form h (by rw [List.length_replicate]; omega)
  rw [List.length_replicate] at e
  subst e
  have h2 := (Kd.R_reads' h).2.1
  obtain ⟨_, ⟨_, h0⟩ | ⟨g', cap', cur0, e1, _, _, _, hcm, _⟩⟩ := Kd.own_of_R h
  · exfalso; rw [List.length_replicate] at h0; omega
  · injection e1 with e1 e2 e3
    subst e3
    exact ⟨g, cap, rfl, hg, h2, hcm⟩
theorem taN_first {k : Cs} {pz : List Bk → Int} {L : List Bk} {j : Nat} {r : List Int} (h : (taN k pz L j)[0]? = some r) : (taN k pz L j).headD [] = r := by
  rw [taN_head] at h
  exact Option.some.inj h
set_option maxHeartbeats 16000000 in
theorem least_c (k : Cs) (A : Option Addr) (c : Nat) (A1 : Option Addr) (c1 : Nat) (L : List Bk) (f : FuncId) (bd : Array Value) (pz : List Bk → Int) (hok : k.ok) (hoL : OkL L) (hVK : CsBd k) (hFO : FitOk L) (hpz : PzOk k pz) (hc1 : L.length ≤ c1) (hfn : Fun Try.prog f) (w : World) (hC : (Kd.int .i16).C w A k.hs.length k.hs) (hL : kBk.C w A1 L.length L)
    (hf : ∀ W, Below w.heap.size w W → ∀ (M : List Bk) A' c' s, M.Sublist L → fitL k s M = true → kBk.C W A' M.length M → Calls Try.prog f (bd ++ #[.slice A' M.length c']) W (Ret W (.int .i64 (pz M)))) :
    Calls Try.prog 154 #[k.val A c, .slice A1 L.length c1, .func (.func f) bd #[]] w (RetQ w (NewTO w (taL k pz L))) := by
  have hm := Kd.C_max hC
  have hm1 := Kd.C_max hL
  have hcf := hfn.run
  have HF0 := Aside0.mk hf
  have HC := Aside0.mk hC
  have HL0 := Aside0.mk hL
  have HOK := Aside0.mk hok
  have HOL := Aside0.mk hoL
  have HVK := Aside0.mk hVK
  have HFO := Aside0.mk hFO
  have HPZ := Aside0.mk hpz
  have hl60 := hFO.len
  have hn12 := hVK.n.2
  have HBw := Aside0.mk (balloc (Below.refl w.heap.size w) (.cells #[.int .i16 k.wd, .int .i32 k.ld, .slice A k.hs.length c] 51))
  have HX := Aside0.mk (CsAt.box w k A c 51)
  have HNEXT := Aside0.mk (show ∀ W, (w.alloc (.cells #[.int .i16 k.wd, .int .i32 k.ld, .slice A k.hs.length c] 51)) = W → W.heap.size = w.heap.size + 1 from fun W h => by rw [← h]; simp)
  have hwn := wrap_suc L.length (by omega)
  have hwp := wrap_pred k.hs.length (by omega)
  have HREP := Aside0.mk (rep_n L.length (by omega) (-1))
  clear hC hL hok hoL hVK hFO hf hfn hpz
  simp only [Cs.val]
  go_enter Try.func154, Try.ntmps154
  go_wp2_with fail
  generalize hW0 : w.alloc (.cells #[.int .i16 k.wd, .int .i32 k.ld, .slice A k.hs.length c] 51) = W0 at HBw HX HNEXT ⊢
  have HN0 := Aside0.mk (HNEXT.out W0 rfl)
  clear hW0 HNEXT
  have HREP0 := HREP.out W0
  rw [HN0.out] at HREP0
  refine HREP0.mono ?_; rintro _ w1 ⟨v1, rfl, hb1, hR1⟩
  obtain ⟨g, cap, rfl, hg1, hgc, _⟩ := row_open hR1
  have HB1 := Aside0.mk (bstep (balloc (Below.refl W0.heap.size W0) _) hb1)
  have HG1 := Aside0.mk (show W0.heap.size ≤ g from Nat.le_trans (by simp) hg1)
  obtain ⟨hc_, hf_⟩ := Kd.R_celln (0 : Int) hR1 (L.length : Int) (by omega) (by omega)
  have hp_ := Kd.R_putn hR1 (L.length : Int) 0
  rw [Int.toNat_natCast] at hc_ hf_ hp_
  rw [lastR_set] at hp_
  have HBP := Aside0.mk (Below.setCell HB1.out (p := ⟨g, L.length, none⟩) HG1.out (.int .i64 0))
  have HBL := Aside0.mk (balloc HBP.out (.cells #[.slice (some ⟨g, 0, none⟩) (L.length + 1) cap] 56))
  have HGL := Aside0.mk (show g < w1.heap.size from Kd.R_lt hR1 g rfl)
  have HROW := Aside0.mk hp_
  obtain ⟨_, _, y2⟩ := HX.out.below HBL.out
  have j0 : (0 : Int) ≤ (L.length : Int) := by omega
  have j1 : (L.length : Int) < (L.length : Int) + 1 := by omega
  clear hb1 hR1 hg1 hp_ HREP0
  go_wp2_with fail
  clear hc_ hf_ y2
  have HT0 := Aside0.mk (show OwnT W0 ((w1.setCell ⟨g, L.length, none⟩ (.int .i64 0)).alloc (.cells #[.slice (some ⟨g, 0, none⟩) (L.length + 1) cap] 56)) (.slice (some ⟨w1.heap.size, 0, none⟩) 1 1) [⟨some ⟨g, 0, none⟩, L.length + 1, cap⟩] (taN k pz L 0) from by
    have hs : (w1.setCell ⟨g, L.length, none⟩ (.int .i64 0)).heap.size = w1.heap.size := by simp
    refine ⟨?_, rfl, fun i x r hx hr => ?_, fun i q x y hne hx hy => ?_⟩
    · refine Kd.R_tight kSH_E (row_made (base := W0.heap.size) (cur := [.slice (some ⟨g, 0, none⟩) (L.length + 1) cap]) (X := [⟨some ⟨g, 0, none⟩, L.length + 1, cap⟩]) (n := 1) (cap := 1) HB1.out.size ?_ rfl (Nat.le_refl _) (by decide) rfl rfl)
      have := heap_alloc_new (w1.setCell ⟨g, L.length, none⟩ (.int .i64 0)) (.cells #[.slice (some ⟨g, 0, none⟩) (L.length + 1) cap] 56)
      rw [hs] at this
      exact this
    · match i, hx, hr with
      | 0, hx, hr =>
        cases hx; cases hr
        exact Kd.R_below (Kd.R_tight (kInt_E _) (Kd.R_lower HROW.out (by show W0.heap.size ≤ (W0.alloc _).heap.size; simp))) (balloc (Below.refl _ _) _)
    · match i, q, hne, hx, hy with
      | 0, 0, hne, hx, hy => exact absurd rfl hne)
  clear HROW HGL
  go_loopg [9, 10] k.hs.length (fun gk v9 v10 wr => ∃ j : Nat, ∃ s : Int, ∃ X : List SlH, v10 = .int .i64 s ∧ Aside0 (j + gk = k.hs.length ∧ s = (gk : Int) - 1) ∧ Aside0 (OwnT W0 wr v9 X (taN k pz L j)) ∧ Aside0 (Below W0.heap.size W0 wr))
  case atStart => exact ⟨0, (k.hs.length : Int) - 1, _, rfl, ⟨by omega, rfl⟩, HT0, HBL⟩
  case round =>
    clear HT0 HBL HBP HB1 HG1
    obtain ⟨j, sI, X, rfl, hjs, HT, HB⟩ := hrel
    by_cases hs0 : 0 ≤ sI
    · obtain ⟨s, rfl⟩ := Int.eq_ofNat_of_zero_le hs0
      have hsj := hjs.out
      have hsl : s < k.hs.length := by omega
      have HSJ := Aside0.mk (show s = k.hs.length - (j + 1) by omega)
      have hj12 : j ≤ 11 := by omega
      have HJK := Aside0.mk (show (gk : Int) = (s : Int) + 1 ∧ j + 1 + (gk - 1) = k.hs.length by omega)
      have hwsp := wrap_pred s (by omega)
      clear hsj hjs hs0
      obtain ⟨gs, rfl⟩ : ∃ g : Nat, g = gk := ⟨_, rfl⟩
      obtain ⟨ws, rfl⟩ : ∃ W : World, W = wr := ⟨_, rfl⟩
      obtain ⟨A9, c9, rfl, hc9⟩ := HT.out.open
      have htl := taN_len k pz L j
      rw [htl] at hc9 HT ⊢
      obtain ⟨nx, hnx⟩ : ∃ nx, (taN k pz L j).headD [] = nx := ⟨_, rfl⟩
      have HNX := Aside0.mk hnx
      have HNB := Aside0.mk (show RowBd (4000000 * j) nx from by rw [← hnx]; exact taN_bd HPZ.out HFO.out j _ (List.mem_of_getElem? (taN_head k pz L j)))
      have HNL := Aside0.mk (show nx.length = L.length + 1 from by rw [← hnx]; exact taN_row k pz L j _ (List.mem_of_getElem? (taN_head k pz L j)))
      have HTL := Aside0.mk htl
      obtain ⟨T, hT⟩ : ∃ T, taN k pz L j = T := ⟨_, rfl⟩
      have HTE := Aside0.mk hT
      rw [hT] at HT htl
      have HTL2 := Aside0.mk htl
      clear hnx hT htl HTL
      go_wp2_with fail
      refine (HREP.out _).mono ?_; rintro _ w2 ⟨v2, rfl, hb2, hR2⟩
      obtain ⟨b, cap2, rfl, hgb, hgc2, hcm2⟩ := row_open hR2
      have HBB := Aside0.mk (show ws.heap.size < b from Nat.lt_of_lt_of_le (by simp) hgb)
      have HR2 := Aside0.mk (show (Kd.int .i64).R 2 w2 ws.heap.size (fun _ => True) (.slice (some ⟨b, 0, none⟩) (L.length + 1) cap2) (List.replicate (L.length + 1) (-1)) from Kd.R_lower hR2 (by simp))
      have HB2 := Aside0.mk (show Below ws.heap.size ws w2 from bstep (balloc (Below.refl _ _) _) hb2)
      have HRS := Aside0.mk (RoS.start L.length (ceF k pz L s nx))
      clear hb2 hR2 hgb hgc2 hcm2
      go_wp2_with fail
      go_loopg [40] (L.length + 1) (fun gk v40 wi => ∃ i : Nat, ∃ r : List Int, i + gk = L.length + 1 ∧ v40 = .int .i64 i ∧ Aside0 (RoS L.length (ceF k pz L s nx) i (-1) r) ∧ Aside0 ((Kd.int .i64).R 2 wi ws.heap.size (fun _ => True) (.slice (some ⟨b, 0, none⟩) (L.length + 1) cap2) r) ∧ Aside0 (Below ws.heap.size ws wi))
      case atStart => exact ⟨0, _, by omega, rfl, HRS, HR2, HB2⟩
      case round =>
        clear HRS HR2 HB2
        obtain ⟨i, r0, hk, rfl, hro, HRi, HBi⟩ := hrel
        have HKi := Aside0.mk hk
        by_cases hil : i < L.length + 1
        · obtain ⟨gi, rfl⟩ : ∃ g : Nat, g = gk := ⟨_, rfl⟩
          obtain ⟨wi, rfl⟩ : ∃ W : World, W = wr := ⟨_, rfl⟩
          have hdi : decide ((i : Int) < (L.length : Int) + 1) = true := decide_eq_true (by omega)
          have hdi' : decide (i < L.length + 1) = true := decide_eq_true hil
          have ii0 : (0 : Int) ≤ (i : Int) := by omega
          have ii1 : (i : Int) < (L.length : Int) + 1 := by omega
          clear hk
          go_wp2
          try simp only [hdi, hdi']
          clear hdi hdi'
          go_loopg [13] (L.length + 1 - i) (fun gk v13 wr => ∃ m : Nat, ∃ acc : Int, ∃ r : List Int, m + gk = L.length + 1 ∧ v13 = .int .i64 m ∧ Aside0 (i ≤ m ∧ RoS L.length (ceF k pz L s nx) i acc r ∧ ceR k pz L s nx i (L.length + 1 - m) m acc = ceF k pz L s nx i ∧ -1 ≤ acc ∧ acc ≤ 100000000) ∧ Aside0 ((Kd.int .i64).R 2 wr ws.heap.size (fun _ => True) (.slice (some ⟨b, 0, none⟩) (L.length + 1) cap2) r) ∧ Aside0 (Below ws.heap.size ws wr))
          case atStart => exact ⟨i, -1, r0, by omega, rfl, ⟨Nat.le_refl _, hro.out, rfl, by omega, by omega⟩, HRi, HBi⟩
          case round =>
            clear HRi HBi
            obtain ⟨m, acc, r, hk, rfl, hrs, HRm, HBm⟩ := hrel
            have HKm := Aside0.mk hk
            have him := hrs.out.1
            have ha0 := hrs.out.2.2.2.1
            have ha1 := hrs.out.2.2.2.2
            have HBr := Aside0.mk (HB.out.trans (HBm.out.mono HB.out.size))
            have HWr := Aside0.mk (HBw.out.trans (HBr.out.mono HBw.out.size))
            have HXr := Aside0.mk (HX.out.below HBr.out)
            obtain ⟨y0, y1, y2⟩ := HXr.out
            have yO0 : ∀ p : Over wr, p.W.cell? ⟨w.heap.size, 0, none⟩ = some (.int .i16 k.wd) := Over.cell y0
            have yO1 : ∀ p : Over wr, p.W.cell? ⟨w.heap.size, 1, none⟩ = some (.int .i32 k.ld) := Over.cell y1
            have yO2 : ∀ p : Over wr, p.W.cell? ⟨w.heap.size, 2, none⟩ = some (.slice A k.hs.length c) := Over.cell y2
            by_cases hml : m ≤ L.length
            · obtain ⟨Ax, cx, hcut, hcx, hCC⟩ := cut_bk A1 c1 L (i : Int) (m : Int) (by omega) (by omega) (by omega) hc1
              have HCC := Aside0.mk hCC
              have HF := Aside0.mk (fun W h1 h2 => fits_c k A c s Ax cx (subL L (i : Int) (m : Int)) HOK.out (fun b hb => HOL.out b ((subL_sub L _ _).subset hb)) hsl W h1 h2)
              have HZ0 := Aside0.mk (fun (hft : fitL k s (subL L (i : Int) (m : Int)) = true) W hW h => HF0.out W hW (subL L (i : Int) (m : Int)) Ax cx s (subL_sub L _ _) hft h)
              have HL := HL0
              simp only [Cs.val] at HF
              have d0 : decide ((m : Int) ≤ (L.length : Int)) = true := decide_eq_true (by omega)
              have d0' : decide (m ≤ L.length) = true := decide_eq_true hml
              have im0 : (0 : Int) ≤ (m : Int) := by omega
              clear hk hCC
              cases hft : fitL k s (subL L (i : Int) (m : Int))
              · have HRO := Aside0.mk (show RoS L.length (ceF k pz L s nx) (i + 1) (-1) r from hrs.out.2.1.next (by rw [← hrs.out.2.2.1]; exact (ceR_stop hft).symm))
                simp only [hft] at HF
                clear hft HZ0
                generalize subL L (i : Int) (m : Int) = M at HF hcut hcx HCC
                go_wp2_with fail
                refine region_over (by kernel_rfl) (by kernel_rfl) ?_
                repeat (go_big_quiet_step (first | (go_at_call 130; exact Calls.over_of (HF.out _ (Kd.C_below HC.out (HWr.out.trans ((Over.h _).mono HWr.out.size))) (HCC.out _ (Kd.C_below HL.out (HWr.out.trans ((Over.h _).mono HWr.out.size))))))))
                refine wpQuiet_nil ?_
                intro wq1 hw'
                have hq_wq1 := over_out hw'
                clear hw'
                have HQ := Aside0.mk (bstep HBm.out hq_wq1)
                have HRq := Aside0.mk (Kd.R_below HRm.out hq_wq1)
                clear yO0 yO1 yO2 hcut y0 y1 y2 hq_wq1
                go_wp2
                go_roundg (gi - 1)
                case measure => have := HKi.out; omega
                case rel => exact ⟨i + 1, r, by have := HKi.out; omega, by go_num, HRO, HRq, HQ⟩
              · have HZ := Aside0.mk (fun W hW h => HZ0.out hft W hW h)
                have zb := HPZ.out.bd s _ (HFO.out.sub (subL_sub L (i : Int) (m : Int))) hft
                have HSTEP := Aside0.mk (show ceR k pz L s nx i (L.length + 1 - m) m acc = ceR k pz L s nx i (L.length + 1 - (m + 1)) (m + 1) (stR acc (nx.getD m 0) (pz (subL L (i : Int) (m : Int)))) from by
                  rw [ceR_hit (by omega) hft, show L.length + 1 - m - 1 = L.length + 1 - (m + 1) by omega])
                simp only [hft] at HF
                clear hft HZ0
                generalize hM : subL L (i : Int) (m : Int) = M at HF hcut hcx HCC HZ zb HSTEP
                clear hM
                generalize pz M = z at HZ zb HSTEP
                obtain ⟨z0, z1⟩ := zb
                go_wp2_with fail
                refine region_over (by kernel_rfl) (by kernel_rfl) ?_
                repeat (go_big_quiet_step (first | (go_at_call 130; exact Calls.over_of (HF.out _ (Kd.C_below HC.out (HWr.out.trans ((Over.h _).mono HWr.out.size))) (HCC.out _ (Kd.C_below HL.out (HWr.out.trans ((Over.h _).mono HWr.out.size))))))))
                refine wpQuiet_nil ?_
                intro wq1 hw'
                have hq_wq1 := over_out hw'
                clear hw'
                have HQ1 := Aside0.mk (bstep HBm.out hq_wq1)
                have HRq1 := Aside0.mk (Kd.R_below HRm.out hq_wq1)
                clear yO0 yO1 yO2 y0 y1 y2 hq_wq1 HF
                obtain ⟨hTn, hTc, hTC⟩ := (HT.out.below HQ1.out).reads
                obtain ⟨ad9, rr, A', c', rfl, hbr, hxr, hc', hCr⟩ := at_row hTC 0 (by have := HTL2.out; omega)
                have hrr : rr = nx := by
                  have h1 := hbr.out
                  rw [← HTE.out] at h1
                  rw [← HNX.out]
                  exact (taN_first h1).symm
                subst hrr
                have hqadd : ∀ q : Addr, q.add 0 = q := fun q => by unfold Addr.add; simp
                obtain ⟨a1, rest, rfl, hbx1, hxx1⟩ := at_int' hCr.out m (by have := HNL.out; omega)
                have HRD := Aside0.mk (show rr.getD m 0 = rest by rw [List.getD_eq_getElem?_getD, hbx1.out]; rfl)
                have hrb := HNB.out.getD (by omega) m
                rw [HRD.out] at hrb HSTEP
                obtain ⟨rb0, rb1⟩ := hrb
                rw [hqadd] at hxr
                have HXR := Aside0.mk hxr
                have hnl := HNL.out
                have i7 : (m : Int) < (rr.length : Int) := by omega
                have i5 : (0 : Int) < (j : Int) + 1 := by omega
                clear hTn hTc hTC hbr hbx1 hCr hc' hnl
                go_wp2_with fail
                clear hxr hxx1 HXR i7 i5 hqadd
                have hcell := (Kd.R_celln (0 : Int) HRq1.out (i : Int) (by omega) (by omega)).1
                rw [Int.toNat_natCast, hrs.out.2.1.rd (by omega)] at hcell
                have yR : ∀ p : Over wq1, _ := Over.cell hcell
                have HWq1 := Aside0.mk (HBw.out.trans ((HB.out.trans (HQ1.out.mono HB.out.size)).mono HBw.out.size))
                have hwz := wrap_sum (a := rest) (z := z) rb0 (by omega) (by omega) (by omega)
                by_cases hrest : rest = -1
                · have hb3 : (rest != -1) = false := by simp [hrest]
                  have HNEW := Aside0.mk (stR_no (acc := acc) (rest := rest) (z := z) (.inl hrest))
                  clear hrest
                  go_wp2_with fail
                  refine region_over (by kernel_rfl) (by kernel_rfl) ?_
                  repeat (go_big_quiet_step (fail))
                  refine wpQuiet_nil ?_
                  intro wq3 hw'
                  have hq_wq3 := over_out hw'
                  clear hw'
                  have HQ3 := Aside0.mk (bstep HQ1.out hq_wq3)
                  have HRq3 := Aside0.mk (Kd.R_below HRq1.out hq_wq3)
                  clear hcell yR hq_wq3 hcut hb3
                  go_wp2
                  go_roundg (gk - 1)
                  case measure => have := HKm.out; omega
                  case rel => exact ⟨m + 1, acc, r, by have := HKm.out; omega, by go_num, ⟨by omega, hrs.out.2.1, by rw [← hrs.out.2.2.1, HSTEP.out, HNEW.out], by omega, by omega⟩, HRq3, HQ3⟩
                · have hb3 : (rest != -1) = true := by simpa using hrest
                  by_cases hacc : acc = -1
                  · have hb4 : (acc == -1) = true := by simp [hacc]
                    have HNEW := Aside0.mk (stR_yes (acc := acc) (rest := rest) (z := z) hrest (.inl hacc))
                    clear hrest hacc
                    go_wp2_with fail
                    refine region_over (by kernel_rfl) (by kernel_rfl) ?_
                    repeat (go_big_quiet_step (fail))
                    refine wpQuiet_nil ?_
                    intro wq3 hw'
                    have hq_wq3 := over_out hw'
                    clear hw'
                    have HQ3 := Aside0.mk (bstep HQ1.out hq_wq3)
                    have HRq3 := Aside0.mk (Kd.R_below HRq1.out hq_wq3)
                    have HWq3 := Aside0.mk (bstep HWq1.out hq_wq3)
                    clear hcell yR hq_wq3 hb3 hb4
                    have HZ1 := Aside0.mk (HZ.out _ (HWq3.out) (HCC.out _ (Kd.C_below HL.out HWq3.out)))
                    obtain ⟨hc_, hf_⟩ := Kd.R_celln (0 : Int) HRq3.out (i : Int) (by omega) (by omega)
                    clear hc_ hf_
                    go_wp2_with fail
                    refine HZ1.out.mono ?_; rintro _ wq4 ⟨rfl, hb4⟩
                    have HRq4 := Aside0.mk (Kd.R_below HRq3.out hb4)
                    have HBq4 := Aside0.mk (bstep HQ3.out hb4)
                    clear hb4 HZ1
                    obtain ⟨hc_, hf_⟩ := Kd.R_celln (0 : Int) HRq4.out (i : Int) (by omega) (by omega)
                    have hp_ := Kd.R_putn HRq4.out (i : Int) (rest + z)
                    rw [Int.toNat_natCast] at hc_ hf_ hp_
                    have HP := Aside0.mk hp_
                    have HBP := Aside0.mk (Below.setCell HBq4.out (p := ⟨b, i, none⟩) (Nat.le_of_lt HBB.out) (.int .i64 (rest + z)))
                    clear hp_
                    go_wp2
                    go_roundg (gk - 1)
                    case measure => have := HKm.out; omega
                    case rel => exact ⟨m + 1, rest + z, r.set i (rest + z), by have := HKm.out; omega, by go_num, ⟨by omega, hrs.out.2.1.put (rest + z), by rw [← hrs.out.2.2.1, HSTEP.out, HNEW.out], by omega, by omega⟩, HP, HBP⟩
                  · have hb4 : (acc == -1) = false := by simpa using hacc
                    by_cases hgt : rest + z < acc
                    · have d3 : decide (rest + z < acc) = true := decide_eq_true hgt
                      have HNEW := Aside0.mk (stR_yes (acc := acc) (rest := rest) (z := z) hrest (.inr hgt))
                      clear hrest hacc hgt
                      go_wp2_with fail
                      refine region_over (by kernel_rfl) (by kernel_rfl) ?_
                      repeat (go_big_quiet_step (first | (exact Calls.over_of (HZ.out _ (HWq1.out.trans ((Over.h _).mono HWq1.out.size)) (HCC.out _ (Kd.C_below HL.out (HWq1.out.trans ((Over.h _).mono HWq1.out.size))))))))
                      refine wpQuiet_nil ?_
                      intro wq3 hw'
                      have hq_wq3 := over_out hw'
                      clear hw'
                      have HQ3 := Aside0.mk (bstep HQ1.out hq_wq3)
                      have HRq3 := Aside0.mk (Kd.R_below HRq1.out hq_wq3)
                      have HWq3 := Aside0.mk (bstep HWq1.out hq_wq3)
                      clear hcell yR hq_wq3 hb3 hb4 d3
                      have HZ1 := Aside0.mk (HZ.out _ (HWq3.out) (HCC.out _ (Kd.C_below HL.out HWq3.out)))
                      obtain ⟨hc_, hf_⟩ := Kd.R_celln (0 : Int) HRq3.out (i : Int) (by omega) (by omega)
                      clear hc_ hf_
                      go_wp2_with fail
                      refine HZ1.out.mono ?_; rintro _ wq4 ⟨rfl, hb4⟩
                      have HRq4 := Aside0.mk (Kd.R_below HRq3.out hb4)
                      have HBq4 := Aside0.mk (bstep HQ3.out hb4)
                      clear hb4 HZ1
                      obtain ⟨hc_, hf_⟩ := Kd.R_celln (0 : Int) HRq4.out (i : Int) (by omega) (by omega)
                      have hp_ := Kd.R_putn HRq4.out (i : Int) (rest + z)
                      rw [Int.toNat_natCast] at hc_ hf_ hp_
                      have HP := Aside0.mk hp_
                      have HBP := Aside0.mk (Below.setCell HBq4.out (p := ⟨b, i, none⟩) (Nat.le_of_lt HBB.out) (.int .i64 (rest + z)))
                      clear hp_
                      go_wp2
                      go_roundg (gk - 1)
                      case measure => have := HKm.out; omega
                      case rel => exact ⟨m + 1, rest + z, r.set i (rest + z), by have := HKm.out; omega, by go_num, ⟨by omega, hrs.out.2.1.put (rest + z), by rw [← hrs.out.2.2.1, HSTEP.out, HNEW.out], by omega, by omega⟩, HP, HBP⟩
                    · have d3 : decide (rest + z < acc) = false := decide_eq_false hgt
                      have HNEW := Aside0.mk (stR_no (acc := acc) (rest := rest) (z := z) (.inr ⟨hacc, by omega⟩))
                      clear hrest hacc hgt
                      go_wp2_with fail
                      refine region_over (by kernel_rfl) (by kernel_rfl) ?_
                      repeat (go_big_quiet_step (first | (exact Calls.over_of (HZ.out _ (HWq1.out.trans ((Over.h _).mono HWq1.out.size)) (HCC.out _ (Kd.C_below HL.out (HWq1.out.trans ((Over.h _).mono HWq1.out.size))))))))
                      refine wpQuiet_nil ?_
                      intro wq3 hw'
                      have hq_wq3 := over_out hw'
                      clear hw'
                      have HQ3 := Aside0.mk (bstep HQ1.out hq_wq3)
                      have HRq3 := Aside0.mk (Kd.R_below HRq1.out hq_wq3)
                      clear hcell yR hq_wq3 hcut hb3 hb4 d3
                      go_wp2
                      go_roundg (gk - 1)
                      case measure => have := HKm.out; omega
                      case rel => exact ⟨m + 1, acc, r, by have := HKm.out; omega, by go_num, ⟨by omega, hrs.out.2.1, by rw [← hrs.out.2.2.1, HSTEP.out, HNEW.out], by omega, by omega⟩, HRq3, HQ3⟩
            · have HRO := Aside0.mk (show RoS L.length (ceF k pz L s nx) (i + 1) (-1) r from hrs.out.2.1.next (by rw [← hrs.out.2.2.1, show L.length + 1 - m = 0 by omega]; rfl))
              have d0 : decide ((m : Int) ≤ (L.length : Int)) = false := decide_eq_false (by omega)
              have d0' : decide (m ≤ L.length) = false := decide_eq_false hml
              clear hk
              go_wp2_with fail
              refine region_over (by kernel_rfl) (by kernel_rfl) ?_
              repeat (go_big_quiet_step (fail))
              refine wpQuiet_nil ?_
              intro wq1 hw'
              have hq_wq1 := over_out hw'
              clear hw'
              have HQ := Aside0.mk (bstep HBm.out hq_wq1)
              have HRq := Aside0.mk (Kd.R_below HRm.out hq_wq1)
              clear yO0 yO1 yO2 y0 y1 y2 hq_wq1
              go_wp2
              go_roundg (gi - 1)
              case measure => have := HKi.out; omega
              case rel => exact ⟨i + 1, r, by have := HKi.out; omega, by go_num, HRO, HRq, HQ⟩
        · have HDONE := Aside0.mk (show r0 = roR k pz L s nx from (show RoS L.length (ceF k pz L s nx) (L.length + 1) (-1) r0 from by rw [show L.length + 1 = i by omega]; exact hro.out).done)
          have hin : ¬ ((i : Int) < (L.length : Int) + 1) := by omega
          have HTi := Aside0.mk (HT.out.below HBi.out)
          have HINS := Aside0.mk (ins_c (.slice A9 (j + 1) c9) X ⟨some ⟨b, 0, none⟩, L.length + 1, cap2⟩ W0.heap.size wr (by have := HT.out.len; have := HTL2.out; omega) (by have := HT.out.len; have := HTL2.out; omega) (Nat.le_trans HB.out.size HBi.out.size) (Kd.R_mono HTi.out.out (fun _ _ => trivial)))
          simp only [SlH.val] at HINS
          clear hk hil
          go_wp2_with fail
          refine HINS.out.mono ?_; rintro _ w3 ⟨v3, rfl, hr3, hg3⟩
          have HBr := Aside0.mk (HB.out.trans (HBi.out.mono HB.out.size))
          have HB3 := Aside0.mk (pw_below_grown HBr.out _ HBr.out.size hg3 (fun k hk => Kd.R_base HTi.out.out k hk))
          have HT3 := Aside0.mk (show OwnT W0 w3 v3 (⟨some ⟨b, 0, none⟩, L.length + 1, cap2⟩ :: X) (taN k pz L (j + 1)) from by
            rw [taN, HTE.out, ← HSJ.out, ← HTE.out, HNX.out, HTE.out, ← HDONE.out]
            exact OwnT.cons HTi.out (Kd.R_tight (kInt_E _) (Kd.R_lower HRi.out HB.out.size)) (fun q y hy => by
              obtain ⟨rq, hrq⟩ : ∃ rq, T[q]? = some rq := ⟨_, List.getElem?_eq_getElem (by have := HT.out.len; have := (List.getElem?_eq_some_iff.1 hy).1; omega)⟩
              exact Apart.new (HT.out.row q y rq hy hrq) HRi.out) hg3 hr3)
          clear hr3 hg3 HINS
          go_wp2
          go_roundg (gs - 1)
          case measure => have := HJK.out; omega
          case rel => exact ⟨j + 1, (s : Int) - 1, _, by go_num, ⟨HJK.out.2, by have := HJK.out; omega⟩, HT3, HB3⟩
    · have hgk : j = k.hs.length := by have := hjs.out; omega
      have HT1 := Aside0.mk (show OwnT W0 wr _ X (taL k pz L) from by unfold taL; rw [← hgk]; exact HT.out)
      have hneg : sI < 0 := by omega
      clear hgk
      go_wp2
      go_ret
      exact ⟨_, rfl, HBw.out.trans (HB.out.mono HBw.out.size), X, HT1.out.lower HBw.out.size⟩
end Go.Proofs.Ytdippdkneeocfaa
