/- The last one of the best layouts: the program's walk; The last one of the best layouts: the reference's walk; FewestShelves, LeastCost, TableOf: the program's and the reference's. -/
import Derived.Test.YtdippdkneeocfaaTableS
import Derived.Test.YtdippdkneeocfaaTabD
import Derived.StillTailTactics
import Derived.Still
import Derived.Deep.QuietTactic
import Derived.BigQuiet
import Derived.Deep.RegionHeld3
namespace Go.Proofs.Ytdippdkneeocfaa
open Go.RowKit Go.Proofs.YtdippdkneeocfaaW.PrintWords Go.Proofs.YtdippdkneeocfaaW.PrintMore
set_option linter.unusedVariables false
set_option linter.unusedSimpArgs false
set_option maxRecDepth 100000

theorem ret_tup3 {w w' : World} {L : List Int} {a b : Int} {v : Value} (h : NewI w L v w') (hb : Below w.heap.size w w') : RetQ w (TupI3 w L a b) (.returned (.tuple #[v, .int .i64 a, .int .i64 b])) w' := ⟨_, rfl, hb, v, rfl, h⟩
/-- What is known of the table of least sums. -/
structure TaF (k : Cs) (pz : List Bk → Int) (L : List Bk) (T : List (List Int)) : Prop where
  len : T.length = k.hs.length + 1
  row : ∀ s, s ≤ k.hs.length → ∃ r, T[s]? = some r ∧ r.length = L.length + 1 ∧ ∀ m, m ≤ L.length → r[m]? = some (tb T s m)
  bd : ∀ s m, s ≤ k.hs.length → m ≤ L.length → -1 ≤ tb T s m ∧ tb T s m ≤ 100000000
theorem taF {k : Cs} {pz : List Bk → Int} {L : List Bk} (hp : PzOk k pz) (hL : FitOk L) (hk : CsBd k) : TaF k pz L (taL k pz L) := by
  have hlen : (taL k pz L).length = k.hs.length + 1 := taN_len _ _ _ _
  have hrow : ∀ s, s ≤ k.hs.length → ∃ r, (taL k pz L)[s]? = some r ∧ r.length = L.length + 1 ∧ ∀ m, m ≤ L.length → r[m]? = some (tb (taL k pz L) s m) := fun s hs => by
    have h : (taL k pz L)[s]? = some (taL k pz L)[s] := List.getElem?_eq_getElem (by omega)
    have hl := taN_row k pz L _ _ (List.mem_of_getElem? h)
    refine ⟨_, h, hl, fun m hm => ?_⟩
    have h2 : (taL k pz L)[s][m]? = some (taL k pz L)[s][m] := List.getElem?_eq_getElem (by omega)
    rw [tb_at h h2]
    exact h2
  refine ⟨hlen, hrow, fun s m hs hm => ?_⟩
  obtain ⟨r, h1, h2, h3⟩ := hrow s hs
  have := taN_bd hp hL k.hs.length r (List.mem_of_getElem? h1) _ (List.mem_of_getElem? (h3 m hm))
  have := hk.n.2
  omega
set_option maxHeartbeats 16000000 in
theorem best_c (k : Cs) (A : Option Addr) (c : Nat) (A1 : Option Addr) (c1 : Nat) (L : List Bk) (f : FuncId) (bd : Array Value) (pz : List Bk → Int) (hok : k.ok) (hoL : OkL L) (hpz : CsBd k → PzOk k pz) (hc1 : L.length ≤ c1) (hfn : Fun Try.prog f) (w : World) (hC : (Kd.int .i16).C w A k.hs.length k.hs) (hL : kBk.C w A1 L.length L)
    (hf : CsBd k → FitOk L → ∀ W, Below w.heap.size w W → ∀ (M : List Bk) A' c' s, M.Sublist L → fitL k s M = true → kBk.C W A' M.length M → Calls Try.prog f (bd ++ #[.slice A' M.length c']) W (Ret W (.int .i64 (pz M)))) :
    Calls Try.prog 155 #[k.val A c, .slice A1 L.length c1, .func (.func f) bd #[]] w (RetQ w (TupI3 w (beV k pz L) (beC k pz L) (beE k pz L))) := by
  have hcf := hfn.run
  have HF0 := Aside0.mk hf
  have HFN := Aside0.mk hfn
  have HPZ0 := Aside0.mk hpz
  clear hf hpz hfn
  have hm := Kd.C_max hC
  have hm1 := Kd.C_max hL
  have HC := Aside0.mk hC
  have HL := Aside0.mk hL
  have HVC := Aside0.mk (fun W h => ValidCase_c k A c W h)
  have HVB := Aside0.mk (fun W h => ValidBooks_c A1 c1 L W h)
  have HB := Aside0.mk (balloc (Below.refl w.heap.size w) (.cells #[.int .i16 k.wd, .int .i32 k.ld, .slice A k.hs.length c] 51))
  have HX := Aside0.mk (CsAt.box w k A c 51)
  clear hC hL
  simp only [Cs.val] at HVC ⊢
  cases v1 : vCase k
  · rw [v1] at HVC
    have HE := Aside0.mk (be_bad (pz := pz) (eCL_1 (L := L) v1))
    clear v1
    obtain ⟨y0, y1, y2⟩ := HX.out
    go_enter Try.func155, Try.ntmps155
    go_wp2_with fail
    refine (HVC.out _ (Kd.C_alloc HC.out _)).mono ?_; rintro _ w1 ⟨rfl, hb1⟩
    have HB1 := Aside0.mk (bstep HB.out hb1)
    have HX1 := Aside0.mk (HX.out.below hb1)
    clear hb1 y0 y1 y2
    obtain ⟨y0, y1, y2⟩ := HX1.out
    go_wp2_with fail
    go_ret3
    rw [HE.out.1, HE.out.2.1, HE.out.2.2]
    exact ret_tup3 (Kd.R_nil _ _ _ _ _) HB1.out
  · rw [v1] at HVC
    cases v2 : vBooks L
    · rw [v2] at HVB
      have HE := Aside0.mk (be_bad (pz := pz) (eCL_2 (k := k) v2))
      clear v1 v2
      obtain ⟨y0, y1, y2⟩ := HX.out
      go_enter Try.func155, Try.ntmps155
      go_wp2_with fail
      refine (HVC.out _ (Kd.C_alloc HC.out _)).mono ?_; rintro _ w1 ⟨rfl, hb1⟩
      have HB1 := Aside0.mk (bstep HB.out hb1)
      have HX1 := Aside0.mk (HX.out.below hb1)
      clear hb1 y0 y1 y2
      obtain ⟨y0, y1, y2⟩ := HX1.out
      go_wp2_with fail
      refine (HVB.out _ (Kd.C_below HL.out HB1.out)).mono ?_; rintro _ w2 ⟨rfl, hb2⟩
      have HB2 := Aside0.mk (bstep HB1.out hb2)
      have HX2 := Aside0.mk (HX1.out.below hb2)
      clear hb2 y0 y1 y2
      obtain ⟨y0, y1, y2⟩ := HX2.out
      go_wp2_with fail
      go_ret3
      rw [HE.out.1, HE.out.2.1, HE.out.2.2]
      exact ret_tup3 (Kd.R_nil _ _ _ _ _) HB2.out
    · rw [v2] at HVB
      have HV0 := Aside0.mk (eCL_0 v1 v2)
      have HFO := Aside0.mk (FitOk.of v2)
      have HVK := Aside0.mk (vCase_bd v1)
      clear v1 v2
      have HOK := Aside0.mk hok
      have HOL := Aside0.mk hoL
      have HPZ := Aside0.mk (HPZ0.out HVK.out)
      have HFC := Aside0.mk (HF0.out HVK.out HFO.out)
      clear hok hoL HPZ0 HF0
      have hl60 := HFO.out.len
      have hn12 := HVK.out.n.2
      have hn1 := HVK.out.n.1
      have HLE := Aside0.mk (fun W (hW : Below w.heap.size w W) h1 h2 => least_c k A c A1 c1 L f bd pz HOK.out HOL.out HVK.out HFO.out HPZ.out hc1 HFN.out W h1 h2 (fun W' h' M A' c' s a b d => HFC.out W' (bstep hW h') M A' c' s a b d))
      simp only [Cs.val] at HLE
      obtain ⟨y0, y1, y2⟩ := HX.out
      go_enter Try.func155, Try.ntmps155
      go_wp2_with fail
      refine (HVC.out _ (Kd.C_alloc HC.out _)).mono ?_; rintro _ w1 ⟨rfl, hb1⟩
      have HB1 := Aside0.mk (bstep HB.out hb1)
      have HX1 := Aside0.mk (HX.out.below hb1)
      clear hb1 y0 y1 y2
      obtain ⟨y0, y1, y2⟩ := HX1.out
      go_wp2_with fail
      refine (HVB.out _ (Kd.C_below HL.out HB1.out)).mono ?_; rintro _ w2 ⟨rfl, hb2⟩
      have HB2 := Aside0.mk (bstep HB1.out hb2)
      have HX2 := Aside0.mk (HX1.out.below hb2)
      clear hb2 y0 y1 y2
      obtain ⟨y0, y1, y2⟩ := HX2.out
      go_wp2_with fail
      have HBw2 := Aside0.mk (HB2.out)
      refine (HLE.out _ HBw2.out (Kd.C_below HC.out HB2.out) (Kd.C_below HL.out HB2.out)).mono ?_; rintro _ w3 ⟨v3, rfl, hb3, X, hT3⟩
      have HB3 := Aside0.mk (bstep HB2.out hb3)
      have HX3 := Aside0.mk (HX2.out.below hb3)
      have HTAF := Aside0.mk (taF HPZ.out HFO.out HVK.out)
      have HBE := Aside0.mk (fun h => be_none (pz := pz) HV0.out h)
      have HBO := Aside0.mk (fun h => be_ok (pz := pz) HV0.out h)
      generalize taL k pz L = T at hT3 HTAF HBE HBO
      have htl := HTAF.out.len
      obtain ⟨g, cap, e9, hgb, _⟩ := Kd.R_form hT3.out (by have := hT3.len; omega)
      rw [hT3.len, htl] at e9
      subst e9
      have HT := Aside0.mk hT3
      obtain ⟨r0, hr0, hr0l, hr0a⟩ := HTAF.out.row 0 (by omega)
      obtain ⟨b0, cb0, hX0⟩ := HT.out.blk (i := 0) hr0 (by omega)
      rw [hr0l] at hX0
      have hcg := (HT.out.cellg hX0).1
      have hcr := (HT.out.cellr hX0 hr0 (hr0a 0 (by omega))).1
      have HX0 := Aside0.mk hX0
      have HR0 := Aside0.mk (And.intro hr0 hr0a)
      simp only [SlH.val] at hcg
      have l1 : (0 : Int) < (k.hs.length : Int) + 1 := by omega
      have l2 : (0 : Int) < (L.length : Int) + 1 := by omega
      clear hb3 hT3 hr0 hr0l hr0a hX0 htl hgb y0 y1 y2 HLE HVC HVB
      by_cases h00 : tb T 0 0 = -1
      · have HE := Aside0.mk (HBE.out h00)
        have hb0 : (tb T 0 0 == -1) = true := by simp [h00]
        clear h00
        go_wp2_with fail
        go_ret3
        rw [HE.out.1, HE.out.2.1, HE.out.2.2]
        exact ret_tup3 (Kd.R_nil _ _ _ _ _) HB3.out
      · have HE := Aside0.mk (HBO.out h00)
        have hb0 : (tb T 0 0 == -1) = false := by simpa using h00
        obtain ⟨y0, y1, y2⟩ := HX3.out
        clear h00 HBE HBO
        go_wp2_with fail
        clear y0 y1 y2 hcg hcr hb0
        go_loopg [10, 11, 37] k.hs.length (fun gk v10 v11 v37 wr => ∃ s : Nat, s + gk = k.hs.length ∧ v37 = .int .i64 s ∧ v11 = .int .i64 (bsAt k pz L T s : Nat) ∧ Aside0 ((Kd.int .i64).R 2 wr w3.heap.size (fun _ => True) v10 (bsEnds k pz L T s)) ∧ Aside0 (Below w3.heap.size w3 wr))
        case atStart => exact ⟨0, by omega, rfl, rfl, ⟨Kd.R_nil _ _ _ _ _⟩, ⟨Below.refl _ _⟩⟩
        case round =>
          obtain ⟨s, hk, rfl, rfl, HR, hb⟩ := hrel
          have HK := Aside0.mk hk
          have hat := bsAt_le k pz L T s
          by_cases hlt : s < k.hs.length
          · have HBo := Aside0.mk (HB3.out.trans (hb.out.mono HB3.out.size))
            have HAT := Aside0.mk (show bsAt k pz L T (s + 1) = atN k pz L T s (bsAt k pz L T s) from rfl)
            have HENDS := Aside0.mk (bsEnds_succ k pz L T s)
            have hlen := bsEnds_len k pz L T s
            obtain ⟨a, ha⟩ : ∃ a, bsAt k pz L T s = a := ⟨_, rfl⟩
            rw [ha] at HAT hat ⊢
            obtain ⟨p, hp⟩ : ∃ p, hitB k pz L T s a = p := ⟨_, rfl⟩
            have HATP := Aside0.mk (show atN k pz L T s a = lastHit p a (L.length + 1 - a) from by unfold atN; rw [hp])
            have HPV := Aside0.mk (show ∀ m : Nat, p m = (fitL k s (subL L (a : Int) (m : Int)) && (tb T (s + 1) m != -1 && (tb T (s + 1) m + pz (subL L (a : Int) (m : Int)) == tb T s a))) from fun m => by rw [← hp]; rfl)
            have HST := Aside0.mk (show ∀ m : Nat, a ≤ m → m ≤ L.length → fitL k s (subL L (a : Int) (m : Int)) = false → lastHit p a (L.length + 1 - a) = lastHit p a (m - a) from fun m h1 h2 h3 => by
              rw [show L.length + 1 - a = m - a + (L.length + 1 - m) by omega]
              refine lastHit_stop _ (fun m' hm' => ?_)
              rw [HPV.out]
              have : fitL k s (subL L (a : Int) (m' : Int)) = false := by
                cases e : fitL k s (subL L (a : Int) (m' : Int))
                · rfl
                · rw [fit_mono HFO.out (show m ≤ m' by omega) e] at h3; cases h3
              rw [this, Bool.false_and])
            obtain ⟨rn, hrn, hrnl, hrna⟩ := HTAF.out.row (s + 1) (by omega)
            obtain ⟨ro, hro, hrol, hroa⟩ := HTAF.out.row s (by omega)
            have HRN := Aside0.mk hrn
            have HRO := Aside0.mk hro
            have HRNA := Aside0.mk hrna
            have HROA := Aside0.mk hroa
            obtain ⟨bn, cbn, hXn⟩ := HT.out.blk (i := s + 1) hrn (by omega)
            obtain ⟨bs, cbs, hXs⟩ := HT.out.blk (i := s) hro (by omega)
            rw [hrnl] at hXn
            rw [hrol] at hXs
            have HXn := Aside0.mk hXn
            have HXs := Aside0.mk hXs
            have i0 : (0 : Int) ≤ (s : Int) := by omega
            have i1 : (s : Int) < (k.hs.length : Int) := by omega
            have hws := wrap_suc s (by omega)
            obtain ⟨gO, rfl⟩ : ∃ g : Nat, g = gk := ⟨_, rfl⟩
            obtain ⟨wo, rfl⟩ : ∃ W : World, W = wr := ⟨_, rfl⟩
            have HXo := Aside0.mk (HX3.out.below hb.out)
            clear ha hk hp hrn hrnl hrna hro hrol hroa hXn hXs
            go_wp2_with fail
            go_loopg [13, 14] (L.length + 1 - a) (fun gk v13 v14 wr => ∃ m : Nat, m + gk = L.length + 1 ∧ v14 = .int .i64 m ∧ v13 = .int .i64 (lastHit p a (m - a) : Nat) ∧ Aside0 (a ≤ m) ∧ Aside0 (Below wo.heap.size wo wr))
            case atStart => exact ⟨a, by omega, rfl, by rw [Nat.sub_self]; rfl, ⟨Nat.le_refl _⟩, ⟨Below.refl _ _⟩⟩
            case round =>
              obtain ⟨m, hk, rfl, rfl, ham, hbi⟩ := hrel
              have HKi := Aside0.mk hk
              have ham' := ham.out
              have hnb := lastHit_bd p a (m - a)
              have HXr := Aside0.mk (HXo.out.below hbi.out)
              have HBr := Aside0.mk (HBo.out.trans (hbi.out.mono HBo.out.size))
              have HWr := Aside0.mk (show Below w.heap.size w wr from HBr.out)
              obtain ⟨y0, y1, y2⟩ := HXr.out
              have yO0 : ∀ p : Over wr, p.W.cell? ⟨w.heap.size, 0, none⟩ = some (.int .i16 k.wd) := Over.cell y0
              have yO1 : ∀ p : Over wr, p.W.cell? ⟨w.heap.size, 1, none⟩ = some (.int .i32 k.ld) := Over.cell y1
              have yO2 : ∀ p : Over wr, p.W.cell? ⟨w.heap.size, 2, none⟩ = some (.slice A k.hs.length c) := Over.cell y2
              by_cases hml : m ≤ L.length
              · obtain ⟨Ax, cx, hcut, hcx, hCC⟩ := cut_bk A1 c1 L (a : Int) (m : Int) (by omega) (by omega) (by omega) hc1
                have HCC := Aside0.mk hCC
                have HF := Aside0.mk (fun W h1 h2 => fits_c k A c s Ax cx (subL L (a : Int) (m : Int)) HOK.out (fun b hb => HOL.out b ((subL_sub L _ _).subset hb)) hlt W h1 h2)
                simp only [Cs.val] at HF
                have d0 : decide ((m : Int) ≤ (L.length : Int)) = true := decide_eq_true (by omega)
                have d0' : decide (m ≤ L.length) = true := decide_eq_true hml
                have im0 : (0 : Int) ≤ (m : Int) := by omega
                have im1 : (m : Int) < (L.length : Int) + 1 := by omega
                clear hk hCC
                cases hft : fitL k s (subL L (a : Int) (m : Int))
                · have HEND := Aside0.mk (show bsAt k pz L T (s + 1) = lastHit p a (m - a) by rw [HAT.out, HATP.out]; exact HST.out m ham' hml hft)
                  simp only [hft] at HF
                  clear hft
                  generalize subL L (a : Int) (m : Int) = M at HF hcut hcx HCC
                  obtain ⟨nx, hnx⟩ : ∃ x, lastHit p a (m - a) = x := ⟨_, rfl⟩
                  rw [hnx] at HEND hnb ⊢
                  clear hnx
                  go_wp2_with fail
                  refine region_over (by kernel_rfl) (by kernel_rfl) ?_
                  repeat (go_big_quiet_step (first | (go_at_call 130; exact Calls.over_of (HF.out _ (Kd.C_below HC.out (HWr.out.trans ((Over.h _).mono HWr.out.size))) (HCC.out _ (Kd.C_below HL.out (HWr.out.trans ((Over.h _).mono HWr.out.size))))))))
                  refine wpQuiet_nil ?_
                  intro wq1 hw'
                  have hq_wq1 := over_out hw'
                  clear hw'
                  have HQ := Aside0.mk (bstep hbi.out hq_wq1)
                  clear yO0 yO1 yO2 hcut y0 y1 y2 hq_wq1
                  have HR1 := Aside0.mk (Kd.R_below HR.out HQ.out)
                  have HB1' := Aside0.mk (bstep hb.out HQ.out)
                  go_wp2_with (at_builtin; refine i64_append (w := w3) rfl (.tmp 87) (.tmp 89) rfl _ (bsEnds k pz L T s) (nx : Int) rfl rfl HR1.out HB1'.out (by omega) ?_; intro v1 w9 hR1 hB1 _; have HR9 := Aside0.mk hR1; have HB9 := Aside0.mk hB1; clear hR1 hB1)
                  go_roundg (gO - 1)
                  case measure => have := HK.out; omega
                  case rel => exact ⟨s + 1, by have := HK.out; omega, by go_num, by rw [HEND.out], ⟨by rw [HENDS.out, HEND.out]; exact HR9.out⟩, HB9⟩
                · have hPm := HPV.out m
                  rw [hft, Bool.true_and] at hPm
                  have HZ := Aside0.mk (fun W hW h => HFC.out W hW (subL L (a : Int) (m : Int)) Ax cx s (subL_sub L _ _) hft h)
                  have zb := HPZ.out.bd s _ (HFO.out.sub (subL_sub L (a : Int) (m : Int))) hft
                  have HNX := Aside0.mk (show m - a + 1 = m + 1 - a by omega)
                  have hma : a + (m - a) = m := by omega
                  have HHY := Aside0.mk (fun (h : p m = true) => (show lastHit p a (m + 1 - a) = m by rw [← HNX.out, lastHit_yes (by rw [hma]; exact h), hma]))
                  have HHN := Aside0.mk (fun (h : p m = false) => (show lastHit p a (m + 1 - a) = lastHit p a (m - a) by rw [← HNX.out, lastHit_no (by rw [hma]; exact h)]))
                  simp only [hft] at HF
                  clear hft hma
                  generalize subL L (a : Int) (m : Int) = M at HF hcut hcx HCC HZ zb hPm
                  generalize pz M = z at HZ zb hPm
                  obtain ⟨z0, z1⟩ := zb
                  obtain ⟨rb0, rb1⟩ := HTAF.out.bd (s + 1) m (by omega) hml
                  obtain ⟨ob0, ob1⟩ := HTAF.out.bd s a (by omega) hat
                  have hcrn := HRNA.out m hml
                  have hcro := HROA.out a hat
                  generalize tb T (s + 1) m = rest at hPm rb0 rb1 hcrn
                  generalize tb T s a = own at hPm ob0 ob1 hcro
                  have HPM := Aside0.mk hPm
                  have HCRN := Aside0.mk hcrn
                  have HCRO := Aside0.mk hcro
                  obtain ⟨nx, hnx⟩ : ∃ x, lastHit p a (m - a) = x := ⟨_, rfl⟩
                  rw [hnx] at HHN hnb ⊢
                  clear hPm hcrn hcro hnx
                  go_wp2_with fail
                  refine region_over (by kernel_rfl) (by kernel_rfl) ?_
                  repeat (go_big_quiet_step (first | (go_at_call 130; exact Calls.over_of (HF.out _ (Kd.C_below HC.out (HWr.out.trans ((Over.h _).mono HWr.out.size))) (HCC.out _ (Kd.C_below HL.out (HWr.out.trans ((Over.h _).mono HWr.out.size))))))))
                  refine wpQuiet_nil ?_
                  intro wq1 hw'
                  have hq_wq1 := over_out hw'
                  clear hw'
                  have HQ1 := Aside0.mk (bstep hbi.out hq_wq1)
                  have HWq1 := Aside0.mk (bstep HWr.out hq_wq1)
                  have HTq := Aside0.mk (HT.out.below (bstep hb.out HQ1.out))
                  have hcgN := (HTq.out.cellg HXn.out).1
                  have hcrN := (HTq.out.cellr HXn.out HRN.out HCRN.out).1
                  have hcgS := (HTq.out.cellg HXs.out).1
                  have hcrS := (HTq.out.cellr HXs.out HRO.out HCRO.out).1
                  simp only [SlH.val] at hcgN hcgS
                  have s1 : (s : Int) + 1 < (k.hs.length : Int) + 1 := by omega
                  have s2 : (s : Int) < (k.hs.length : Int) + 1 := by omega
                  have s3 : (0 : Int) ≤ (s : Int) + 1 := by omega
                  have s4 : ((s : Int) + 1).toNat = s + 1 := by omega
                  have a0 : (0 : Int) ≤ (a : Int) := by omega
                  have a1 : (a : Int) < (L.length : Int) + 1 := by omega
                  have hwz := wrap_sum (a := rest) (z := z) rb0 (by omega) (by omega) (by omega)
                  clear yO0 yO1 yO2 y0 y1 y2 hq_wq1 HF
                  go_wp2_with fail
                  have yS : ∀ p : Over wq1, _ := Over.cell hcgS
                  have yR : ∀ p : Over wq1, _ := Over.cell hcrS
                  clear hcgN hcrN
                  by_cases hrest : rest = -1
                  · have hb3 : (rest != -1) = false := by simp [hrest]
                    have HNEW := Aside0.mk (HHN.out (by rw [HPM.out, hb3, Bool.false_and]))
                    clear hrest
                    go_wp2_with fail
                    refine region_over (by kernel_rfl) (by kernel_rfl) ?_
                    repeat (go_big_quiet_step (fail))
                    refine wpQuiet_nil ?_
                    intro wq3 hw'
                    have hq_wq3 := over_out hw'
                    clear hw'
                    have HQ3 := Aside0.mk (bstep HQ1.out hq_wq3)
                    clear yS yR hcgS hcrS hq_wq3 hcut hb3
                    go_wp2
                    go_roundg (gk - 1)
                    case measure => have := HKi.out; omega
                    case rel => exact ⟨m + 1, by have := HKi.out; omega, by go_num, by rw [HNEW.out], ⟨by omega⟩, HQ3⟩
                  · have hb3 : (rest != -1) = true := by simpa using hrest
                    by_cases hown : rest + z = own
                    · have hb4 : (rest + z == own) = true := by simp [hown]
                      have HNEW := Aside0.mk (HHY.out (by rw [HPM.out, hb3, hb4]; rfl))
                      clear hrest hown
                      go_wp2_with fail
                      refine region_over (by kernel_rfl) (by kernel_rfl) ?_
                      repeat (go_big_quiet_step (first | (exact Calls.over_of (HZ.out _ (HWq1.out.trans ((Over.h _).mono HWq1.out.size)) (HCC.out _ (Kd.C_below HL.out (HWq1.out.trans ((Over.h _).mono HWq1.out.size))))))))
                      refine wpQuiet_nil ?_
                      intro wq3 hw'
                      have hq_wq3 := over_out hw'
                      clear hw'
                      have HQ3 := Aside0.mk (bstep HQ1.out hq_wq3)
                      clear yS yR hcgS hcrS hq_wq3 hcut hb3 hb4
                      go_wp2
                      go_roundg (gk - 1)
                      case measure => have := HKi.out; omega
                      case rel => exact ⟨m + 1, by have := HKi.out; omega, by go_num, by rw [HNEW.out], ⟨by omega⟩, HQ3⟩
                    · have hb4 : (rest + z == own) = false := by simpa using hown
                      have HNEW := Aside0.mk (HHN.out (by rw [HPM.out, hb3, hb4]; rfl))
                      clear hrest hown
                      go_wp2_with fail
                      refine region_over (by kernel_rfl) (by kernel_rfl) ?_
                      repeat (go_big_quiet_step (first | (exact Calls.over_of (HZ.out _ (HWq1.out.trans ((Over.h _).mono HWq1.out.size)) (HCC.out _ (Kd.C_below HL.out (HWq1.out.trans ((Over.h _).mono HWq1.out.size))))))))
                      refine wpQuiet_nil ?_
                      intro wq3 hw'
                      have hq_wq3 := over_out hw'
                      clear hw'
                      have HQ3 := Aside0.mk (bstep HQ1.out hq_wq3)
                      clear yS yR hcgS hcrS hq_wq3 hcut hb3 hb4
                      go_wp2
                      go_roundg (gk - 1)
                      case measure => have := HKi.out; omega
                      case rel => exact ⟨m + 1, by have := HKi.out; omega, by go_num, by rw [HNEW.out], ⟨by omega⟩, HQ3⟩
              · have HEND := Aside0.mk (show bsAt k pz L T (s + 1) = lastHit p a (m - a) by rw [HAT.out, HATP.out, show L.length + 1 - a = m - a by omega])
                have d0 : decide ((m : Int) ≤ (L.length : Int)) = false := decide_eq_false (by omega)
                have d0' : decide (m ≤ L.length) = false := decide_eq_false hml
                obtain ⟨nx, hnx⟩ : ∃ x, lastHit p a (m - a) = x := ⟨_, rfl⟩
                have hm61 : m ≤ L.length + 1 := by omega
                rw [hnx] at HEND hnb ⊢
                clear hk hnx
                go_wp2_with fail
                refine region_over (by kernel_rfl) (by kernel_rfl) ?_
                repeat (go_big_quiet_step (fail))
                refine wpQuiet_nil ?_
                intro wq1 hw'
                have hq_wq1 := over_out hw'
                clear hw'
                have HQ := Aside0.mk (bstep hbi.out hq_wq1)
                clear yO0 yO1 yO2 y0 y1 y2 hq_wq1
                have HR1 := Aside0.mk (Kd.R_below HR.out HQ.out)
                have HB1' := Aside0.mk (bstep hb.out HQ.out)
                go_wp2_with (at_builtin; refine i64_append (w := w3) rfl (.tmp 87) (.tmp 89) rfl _ (bsEnds k pz L T s) (nx : Int) rfl rfl HR1.out HB1'.out (by omega) ?_; intro v1 w9 hR1 hB1 _; have HR9 := Aside0.mk hR1; have HB9 := Aside0.mk hB1; clear hR1 hB1)
                go_roundg (gO - 1)
                case measure => have := HK.out; omega
                case rel => exact ⟨s + 1, by have := HK.out; omega, by go_num, by rw [HEND.out], ⟨by rw [HENDS.out, HEND.out]; exact HR9.out⟩, HB9⟩
          · have hs : s = k.hs.length := by omega
            have HBr := Aside0.mk (HB3.out.trans (hb.out.mono HB3.out.size))
            have HR2 := Aside0.mk (Kd.R_lower HR.out HB3.out.size)
            rw [hs] at HR2
            have HTr := Aside0.mk (HT.out.below hb.out)
            have hcg := (HTr.out.cellg HX0.out).1
            have hcr := (HTr.out.cellr HX0.out HR0.out.1 (HR0.out.2 0 (by omega))).1
            simp only [SlH.val] at hcg
            have yS : ∀ p : Over wr, _ := Over.cell hcg
            have yR : ∀ p : Over wr, _ := Over.cell hcr
            generalize bsAt k pz L T s = a at hat ⊢
            clear hk hs
            go_wp2_with fail
            refine region_over (by kernel_rfl) (by kernel_rfl) ?_
            repeat (go_big_quiet_step (fail))
            refine wpQuiet_nil ?_
            intro wq9 hw'
            have hq_wq9 := over_out hw'
            clear hw'
            have HQ9 := Aside0.mk (Kd.R_below HR2.out hq_wq9)
            have HB9 := Aside0.mk (bstep HBr.out hq_wq9)
            clear hcg hcr yS yR hq_wq9
            go_wp2_with fail
            go_ret3
            rw [HE.out.1, HE.out.2.1, HE.out.2.2]
            exact ret_tup3 HQ9.out HB9.out
set_option maxHeartbeats 16000000 in
theorem l02Best_c (k : Cs) (A : Option Addr) (c : Nat) (p : Addr) (A1 : Option Addr) (c1 : Nat) (L : List Bk) (bb : Bool) (hok : k.ok) (hoL : OkL L) (hc1 : L.length ≤ c1) (w : World) (hp : CsAt w p k A c) (hC : (Kd.int .i16).C w A k.hs.length k.hs) (hL : kBk.C w A1 L.length L) :
    Calls Try.prog 152 #[.pointer (some p), .slice A1 L.length c1, .bool bb] w (RetQ w (TupI3 w (beV k (pzB k bb) L) (beC k (pzB k bb) L) (beE k (pzB k bb) L))) := by
  have hm := Kd.C_max hC
  have hm1 := Kd.C_max hL
  have HA := Aside0.mk (l02Asked_c k A c p A1 c1 L hok hoL w hp hC hL)
  have HC := Aside0.mk hC
  have HL := Aside0.mk hL
  have HX := Aside0.mk hp
  have HB := Aside0.mk (Below.refl w.heap.size w)
  clear hC hL hp
  rcases eCL_split k L with ⟨hv, v1, v2⟩ | hv
  · have HV0 := Aside0.mk hv
    have HFO := Aside0.mk (FitOk.of v2)
    have HVK := Aside0.mk (vCase_bd v1)
    have HOK := Aside0.mk hok
    have HPZ := Aside0.mk (pzB_ok (vCase_bd v1) bb)
    have HPR := Aside0.mk (fun (s : Nat) (hs : s < k.hs.length) A' c' (M : List Bk) (hM : M.Sublist L) W h1 h2 h3 => l02Price_c k A c s p A' c' M bb HOK.out HVK.out (HFO.out.sub hM) hs W h1 h2 h3)
    have HPB := Aside0.mk (fun {s : Nat} {M : List Bk} (h : fitL k s M = true) => prL_yes (b := bb) h)
    have HTB := Aside0.mk (fun W h1 h2 h3 => l02Table_c k A c p A1 c1 L bb HOK.out HVK.out HFO.out hc1 W h1 h2 h3)
    rw [hv] at HA
    generalize pzB k bb = pz at HPZ HPB HTB ⊢
    clear hv v1 v2 hok hoL
    have hl60 := HFO.out.len
    have hn12 := HVK.out.n.2
    have hn1 := HVK.out.n.1
    go_enter Try.func152, Try.ntmps152
    go_wp2_with fail
    refine HA.out.mono ?_; rintro _ w1 ⟨rfl, hb1⟩
    have HB1 := Aside0.mk (bstep HB.out hb1)
    have HX1 := Aside0.mk (HX.out.below hb1)
    clear hb1
    go_wp2_with fail
    refine (HTB.out _ HX1.out (Kd.C_below HC.out HB1.out) (Kd.C_below HL.out HB1.out)).mono ?_; rintro _ w3 ⟨v3, rfl, hb3, X, hT3⟩
    have HB3 := Aside0.mk (bstep HB1.out hb3)
    have HX3 := Aside0.mk (HX1.out.below hb3)
    have HTAF := Aside0.mk (taF HPZ.out HFO.out HVK.out)
    have HBE := Aside0.mk (fun h => be_none (pz := pz) HV0.out h)
    have HBO := Aside0.mk (fun h => be_ok (pz := pz) HV0.out h)
    generalize taL k pz L = T at hT3 HTAF HBE HBO
    have htl := HTAF.out.len
    obtain ⟨g, cap, e9, hgb, _⟩ := Kd.R_form hT3.out (by have := hT3.len; omega)
    rw [hT3.len, htl] at e9
    subst e9
    have HT := Aside0.mk hT3
    obtain ⟨r0, hr0, hr0l, hr0a⟩ := HTAF.out.row 0 (by omega)
    obtain ⟨b0, cb0, hX0⟩ := HT.out.blk (i := 0) hr0 (by omega)
    rw [hr0l] at hX0
    have hcg := (HT.out.cellg hX0).1
    have hcr := (HT.out.cellr hX0 hr0 (hr0a 0 (by omega))).1
    have HX0 := Aside0.mk hX0
    have HR0 := Aside0.mk (And.intro hr0 hr0a)
    have ht0 := (HTAF.out.bd 0 0 (by omega) (by omega)).1
    simp only [SlH.val] at hcg
    have l1 : (0 : Int) < (k.hs.length : Int) + 1 := by omega
    have l2 : (0 : Int) < (L.length : Int) + 1 := by omega
    clear hb3 hT3 hr0 hr0l hr0a hX0 htl hgb HTB
    by_cases h00 : tb T 0 0 < 0
    · have HE := Aside0.mk (HBE.out (by omega))
      go_wp2_with fail
      go_ret3
      rw [HE.out.1, HE.out.2.1, HE.out.2.2]
      exact ret_tup3 (R_zero _ _ _ _ _ HB3.out.size trivial) (balloc HB3.out _)
    · have HE := Aside0.mk (HBO.out (by omega))
      have HRZ := Aside0.mk (R_zero (Kd.int .i64) 2 w3 w3.heap.size (fun _ => True) (Nat.le_refl _) trivial)
      have HBZ := Aside0.mk (balloc (Below.refl w3.heap.size w3) (.cells #[] 2))
      clear HBE HBO ht0
      go_wp2_with fail
      clear hcg hcr h00
      go_loopg [11, 12, 13] k.hs.length (fun gk v11 v12 v13 wr => ∃ s : Nat, s + gk = k.hs.length ∧ v13 = .int .i64 s ∧ v12 = .int .i64 (bsAt k pz L T s : Nat) ∧ Aside0 ((Kd.int .i64).R 2 wr w3.heap.size (fun _ => True) v11 (bsEnds k pz L T s)) ∧ Aside0 (Below w3.heap.size w3 wr))
      case atStart => exact ⟨0, by omega, rfl, rfl, HRZ, HBZ⟩
      case round =>
        clear HRZ HBZ
        obtain ⟨s, hk, rfl, rfl, HR, hb⟩ := hrel
        have HK := Aside0.mk hk
        have hat := bsAt_le k pz L T s
        have HXo := Aside0.mk (HX3.out.below hb.out)
        obtain ⟨y0, y1, y2⟩ := HXo.out
        by_cases hlt : s < k.hs.length
        · have HBo := Aside0.mk (HB3.out.trans (hb.out.mono HB3.out.size))
          have HAT := Aside0.mk (show bsAt k pz L T (s + 1) = atN k pz L T s (bsAt k pz L T s) from rfl)
          have HENDS := Aside0.mk (bsEnds_succ k pz L T s)
          have hlen := bsEnds_len k pz L T s
          obtain ⟨a, ha⟩ : ∃ a, bsAt k pz L T s = a := ⟨_, rfl⟩
          rw [ha] at HAT hat ⊢
          obtain ⟨p, hp⟩ : ∃ p, hitB k pz L T s a = p := ⟨_, rfl⟩
          have HATP := Aside0.mk (show bsAt k pz L T (s + 1) = lastHit p a (L.length + 1 - a) from by rw [HAT.out]; unfold atN; rw [hp])
          have HPV := Aside0.mk (show ∀ m : Nat, p m = (fitL k s (subL L (a : Int) (m : Int)) && (tb T (s + 1) m != -1 && (tb T (s + 1) m + pz (subL L (a : Int) (m : Int)) == tb T s a))) from fun m => by rw [← hp]; rfl)
          obtain ⟨rn, hrn, hrnl, hrna⟩ := HTAF.out.row (s + 1) (by omega)
          obtain ⟨ro, hro, hrol, hroa⟩ := HTAF.out.row s (by omega)
          have HRN := Aside0.mk hrn
          have HRO := Aside0.mk hro
          have HRNA := Aside0.mk hrna
          have HROA := Aside0.mk hroa
          obtain ⟨bn, cbn, hXn⟩ := HT.out.blk (i := s + 1) hrn (by omega)
          obtain ⟨bs, cbs, hXs⟩ := HT.out.blk (i := s) hro (by omega)
          rw [hrnl] at hXn
          rw [hrol] at hXs
          have HXn := Aside0.mk hXn
          have HXs := Aside0.mk hXs
          have i0 : (0 : Int) ≤ (s : Int) := by omega
          have i1 : (s : Int) < (k.hs.length : Int) := by omega
          have hws := wrap_suc s (by omega)
          obtain ⟨gO, rfl⟩ : ∃ g : Nat, g = gk := ⟨_, rfl⟩
          obtain ⟨wo, rfl⟩ : ∃ W : World, W = wr := ⟨_, rfl⟩
          clear ha hk hp hrn hrnl hrna hro hrol hroa hXn hXs HAT
          go_wp2_with fail
          clear y0 y1 y2
          go_loopg [12, 14] (L.length + 1 - a) (fun gk v12 v14 wr => ∃ mI : Int, v12 = .int .i64 (a : Int) ∧ v14 = .int .i64 mI ∧ Aside0 (mI = (a : Int) + gk - 1 ∧ mI ≤ L.length ∧ lastHit p a gk = bsAt k pz L T (s + 1)) ∧ Aside0 (Below wo.heap.size wo wr))
          case atStart => exact ⟨(L.length : Int), rfl, rfl, ⟨by omega, Int.le_refl _, HATP.out.symm⟩, ⟨Below.refl _ _⟩⟩
          case round =>
            clear HATP
            obtain ⟨mI, rfl, rfl, hmI, hbi⟩ := hrel
            have HXr := Aside0.mk (HXo.out.below hbi.out)
            have HBr := Aside0.mk (HBo.out.trans (hbi.out.mono HBo.out.size))
            by_cases ham : (a : Int) ≤ mI
            · obtain ⟨m, rfl⟩ := Int.eq_ofNat_of_zero_le (show 0 ≤ mI by omega)
              have hml : m ≤ L.length := by have := hmI.out.2.1; omega
              have HGK := Aside0.mk (show gk = (m - a) + 1 by have := hmI.out.1; omega)
              have hma : a + (m - a) = m := by omega
              have HHY := Aside0.mk (fun (h : p m = true) => (show bsAt k pz L T (s + 1) = m by rw [← hmI.out.2.2, HGK.out, lastHit_yes (by rw [hma]; exact h), hma]))
              have HHN := Aside0.mk (fun (h : p m = false) => (show lastHit p a (gk - 1) = bsAt k pz L T (s + 1) by rw [← hmI.out.2.2, HGK.out, lastHit_no (by rw [hma]; exact h), Nat.add_sub_cancel]))
              have hwm := wrap_pred m (by omega)
              have im0 : (0 : Int) ≤ (m : Int) := by omega
              have im1 : (m : Int) < (L.length : Int) + 1 := by omega
              have a0 : (0 : Int) ≤ (a : Int) := by omega
              have a1 : (a : Int) < (L.length : Int) + 1 := by omega
              obtain ⟨Ax, cx, hcut, hcx, hCC⟩ := cut_bk A1 c1 L (a : Int) (m : Int) (by omega) (by omega) (by omega) hc1
              have hPr := HPR.out s hlt Ax cx (subL L (a : Int) (m : Int)) (subL_sub L _ _) wr HXr.out (Kd.C_below HC.out HBr.out) (hCC wr (Kd.C_below HL.out HBr.out))
              have hPm := HPV.out m
              obtain ⟨rb0, rb1⟩ := HTAF.out.bd (s + 1) m (by omega) hml
              obtain ⟨ob0, ob1⟩ := HTAF.out.bd s a (by omega) hat
              have hcrn := HRNA.out m hml
              have hcro := HROA.out a hat
              clear hma hCC
              cases hft : fitL k s (subL L (a : Int) (m : Int))
              · rw [hft, Bool.false_and] at hPm
                have HNEW := Aside0.mk (HHN.out hPm)
                rw [prL_no hft] at hPr
                have HPr := Aside0.mk hPr
                have HCRN := Aside0.mk hcrn
                clear hft hPr hPm hcro hcrn HHY
                generalize subL L (a : Int) (m : Int) = M at HPr hcut hcx
                generalize tb T (s + 1) m = rest at HCRN rb0 rb1
                go_wp2_with fail
                refine HPr.out.mono ?_; rintro _ wq1 ⟨rfl, hb1⟩
                have HQ := Aside0.mk (bstep hbi.out hb1)
                have HTq := Aside0.mk (HT.out.below (bstep hb.out HQ.out))
                have hcgN := (HTq.out.cellg HXn.out).1
                have hcrN := (HTq.out.cellr HXn.out HRN.out HCRN.out).1
                simp only [SlH.val] at hcgN
                have s1 : (s : Int) + 1 < (k.hs.length : Int) + 1 := by omega
                have s3 : (0 : Int) ≤ (s : Int) + 1 := by omega
                have s4 : ((s : Int) + 1).toNat = s + 1 := by omega
                clear hcut hb1
                go_wp2
                go_roundg (gk - 1)
                case measure => have := HGK.out; omega
                case rel => exact ⟨(m : Int) - 1, rfl, by go_num, ⟨by have := HGK.out; omega, by omega, HNEW.out⟩, HQ⟩
              · rw [hft, Bool.true_and] at hPm
                have zb := HPZ.out.bd s _ (HFO.out.sub (subL_sub L (a : Int) (m : Int))) hft
                rw [HPB.out hft] at hPr
                have HPr := Aside0.mk hPr
                have HCRN := Aside0.mk hcrn
                have HCRO := Aside0.mk hcro
                have HPM := Aside0.mk hPm
                clear hft hPr hPm hcro hcrn
                generalize subL L (a : Int) (m : Int) = M at HPr hcut hcx HPM zb
                generalize pz M = z at HPr HPM zb
                generalize tb T (s + 1) m = rest at HCRN rb0 rb1 HPM
                generalize tb T s a = own at HCRO ob0 ob1 HPM
                obtain ⟨z0, z1⟩ := zb
                go_wp2_with fail
                refine HPr.out.mono ?_; rintro _ wq1 ⟨rfl, hb1⟩
                have HQ := Aside0.mk (bstep hbi.out hb1)
                have HTq := Aside0.mk (HT.out.below (bstep hb.out HQ.out))
                have hcgN := (HTq.out.cellg HXn.out).1
                have hcrN := (HTq.out.cellr HXn.out HRN.out HCRN.out).1
                have hcgS := (HTq.out.cellg HXs.out).1
                have hcrS := (HTq.out.cellr HXs.out HRO.out HCRO.out).1
                simp only [SlH.val] at hcgN hcgS
                have s1 : (s : Int) + 1 < (k.hs.length : Int) + 1 := by omega
                have s2 : (s : Int) < (k.hs.length : Int) + 1 := by omega
                have s3 : (0 : Int) ≤ (s : Int) + 1 := by omega
                have s4 : ((s : Int) + 1).toNat = s + 1 := by omega
                have hwz := wrap_sum (a := z) (z := rest) (by omega) (by omega) (by omega) (by omega)
                clear hcut hb1
                by_cases hrest : 0 ≤ rest
                · have hbr : (rest != -1) = true := by simp; omega
                  by_cases hown : z + rest = own
                  · have hb4 : (z + rest == own) = true := by simp [hown]
                    have HNEW := Aside0.mk (HHY.out (by rw [HPM.out, hbr, Int.add_comm rest z, hb4]; rfl))
                    clear hown hbr
                    have HR1 := Aside0.mk (Kd.R_below HR.out HQ.out)
                    have HB1' := Aside0.mk (bstep hb.out HQ.out)
                    go_wp2_with (at_builtin; refine i64_append (w := w3) rfl (.tmp 88) (.tmp 90) rfl _ (bsEnds k pz L T s) (m : Int) rfl rfl HR1.out HB1'.out (by omega) ?_; intro v1 w9 hR1 hB1 _; have HR9 := Aside0.mk hR1; have HB9 := Aside0.mk hB1; clear hR1 hB1)
                    go_roundg (gO - 1)
                    case measure => have := HK.out; omega
                    case rel => exact ⟨s + 1, by have := HK.out; omega, by go_num, by rw [HNEW.out], ⟨by rw [HENDS.out, HNEW.out]; exact HR9.out⟩, HB9⟩
                  · have hb4 : (z + rest == own) = false := by simpa using hown
                    have HNEW := Aside0.mk (HHN.out (by rw [HPM.out, hbr, Int.add_comm rest z, hb4]; rfl))
                    clear hown hbr
                    go_wp2
                    go_roundg (gk - 1)
                    case measure => have := HGK.out; omega
                    case rel => exact ⟨(m : Int) - 1, rfl, by go_num, ⟨by have := HGK.out; omega, by omega, HNEW.out⟩, HQ⟩
                · have hbr : (rest != -1) = false := by simp; omega
                  have HNEW := Aside0.mk (HHN.out (by rw [HPM.out, hbr]; rfl))
                  clear hbr
                  go_wp2
                  go_roundg (gk - 1)
                  case measure => have := HGK.out; omega
                  case rel => exact ⟨(m : Int) - 1, rfl, by go_num, ⟨by have := HGK.out; omega, by omega, HNEW.out⟩, HQ⟩
            · have HEND := Aside0.mk (show bsAt k pz L T (s + 1) = a by
                have := hmI.out
                rw [← this.2.2, show gk = 0 by omega]
                rfl)
              have HR1 := Aside0.mk (Kd.R_below HR.out hbi.out)
              have HB1' := Aside0.mk (bstep hb.out hbi.out)
              go_wp2_with (at_builtin; refine i64_append (w := w3) rfl (.tmp 88) (.tmp 90) rfl _ (bsEnds k pz L T s) (a : Int) rfl rfl HR1.out HB1'.out (by omega) ?_; intro v1 w9 hR1 hB1 _; have HR9 := Aside0.mk hR1; have HB9 := Aside0.mk hB1; clear hR1 hB1)
              go_roundg (gO - 1)
              case measure => have := HK.out; omega
              case rel => exact ⟨s + 1, by have := HK.out; omega, by go_num, by rw [HEND.out], ⟨by rw [HENDS.out, HEND.out]; exact HR9.out⟩, HB9⟩
        · have hs : s = k.hs.length := by omega
          have HBr := Aside0.mk (HB3.out.trans (hb.out.mono HB3.out.size))
          have HR2 := Aside0.mk (Kd.R_lower HR.out HB3.out.size)
          rw [hs] at HR2
          have HTr := Aside0.mk (HT.out.below hb.out)
          have hcg := (HTr.out.cellg HX0.out).1
          have hcr := (HTr.out.cellr HX0.out HR0.out.1 (HR0.out.2 0 (by omega))).1
          simp only [SlH.val] at hcg
          have yS : ∀ p : Over wr, _ := Over.cell hcg
          have yR : ∀ p : Over wr, _ := Over.cell hcr
          generalize bsAt k pz L T s = a at hat ⊢
          clear hk hs
          go_wp2_with fail
          refine region_over (by kernel_rfl) (by kernel_rfl) ?_
          repeat (go_big_quiet_step (fail))
          refine wpQuiet_nil ?_
          intro wq9 hw'
          have hq_wq9 := over_out hw'
          clear hw'
          have HQ9 := Aside0.mk (Kd.R_below HR2.out hq_wq9)
          have HB9 := Aside0.mk (bstep HBr.out hq_wq9)
          clear hcg hcr yS yR hq_wq9 y0 y1 y2
          go_wp2_with fail
          go_ret3
          rw [HE.out.1, HE.out.2.1, HE.out.2.2]
          exact ret_tup3 HQ9.out HB9.out
  · have HE := Aside0.mk (be_bad (pz := pzB k bb) hv)
    rw [hv] at HA
    clear hv
    go_enter Try.func152, Try.ntmps152
    go_wp2_with fail
    refine HA.out.mono ?_; rintro _ w1 ⟨rfl, hb1⟩
    have HB1 := Aside0.mk (bstep HB.out hb1)
    clear hb1
    go_wp2_with fail
    go_ret3
    rw [HE.out.1, HE.out.2.1, HE.out.2.2]
    exact ret_tup3 (R_zero _ _ _ _ _ HB1.out.size trivial) (balloc HB1.out _)
theorem pzB_us (k : Cs) : pzB k true = usL := by funext M; rfl
theorem pzB_sq (k : Cs) : pzB k false = sqL k := by funext M; rfl
def toV (k : Cs) (L : List Bk) : List (List Int) := if eCL k L = 0 then taL k (sqL k) L else []
theorem to_bad {k : Cs} {L : List Bk} (h : eCL k L = 1) : toV k L = [] ∧ eCL k L = 1 := ⟨by unfold toV; rw [h]; rfl, h⟩
theorem to_ok {k : Cs} {L : List Bk} (h : eCL k L = 0) : toV k L = taL k (sqL k) L := by unfold toV; rw [if_pos h]
theorem toV_sz (k : Cs) (L : List Bk) : (toV k L).length ≤ 13 ∧ ∀ r, r ∈ toV k L → r.length ≤ 61 := by
  unfold toV
  rcases eCL_split k L with ⟨hv, v1, v2⟩ | hv
  · rw [if_pos hv]
    have h1 := (vCase_bd v1).n.2
    have h2 := (FitOk.of v2).len
    refine ⟨by unfold taL; rw [taN_len]; omega, fun r hr => ?_⟩
    have := taN_row k (sqL k) L _ r hr
    omega
  · rw [hv, if_neg (by decide)]
    exact ⟨Nat.zero_le _, fun r hr => by cases hr⟩
theorem rowsN_le {T : List (List Int)} {n : Nat} (h : ∀ r, r ∈ T → r.length ≤ n) : ∀ i, rowsN T i ≤ n * i
  | 0 => Nat.le_refl _
  | i + 1 => by
    have := rowsN_le h i
    have h2 : (T.getD i []).length ≤ n := by
      rw [List.getD_eq_getElem?_getD]
      cases e : T[i]? with
      | none => exact Nat.zero_le _
      | some r => exact h r (List.mem_of_getElem? e)
    rw [rowsN, Nat.mul_succ]
    omega
theorem OwnT.nil {w0 w : World} : OwnT w0 w (.slice none 0 0) [] [] := ⟨Kd.R_nil _ _ _ _ _, rfl, fun j x r h => (by cases h), fun i j x y hne h => (by cases h)⟩
theorem OwnT.zero {w0 w : World} (h : w0.heap.size ≤ w.heap.size) : OwnT w0 (w.alloc (.cells #[] 56)) (.slice (some ⟨w.heap.size, 0, none⟩) 0 0) [] [] := ⟨Kd.R_tight kSH_E (R_zero kSH 56 w w0.heap.size (fun _ => True) h trivial), rfl, fun j x r h => (by cases h), fun i j x y hne h => (by cases h)⟩
theorem ret_tupT {w w' : World} {T : List (List Int)} {n : Int} {v : Value} {X : List SlH} (h : OwnT w w' v X T) (hb : Below w.heap.size w w') : RetQ w (TupT w T n) (.returned (.tuple #[v, .int .i64 n])) w' := ⟨_, rfl, hb, v, X, rfl, h⟩
set_option maxHeartbeats 2000000 in
theorem FewestShelves_c (k : Cs) (A : Option Addr) (c : Nat) (A1 : Option Addr) (c1 : Nat) (L : List Bk) (hok : k.ok) (hoL : OkL L) (hc1 : L.length ≤ c1) (w : World) (hC : (Kd.int .i16).C w A k.hs.length k.hs) (hL : kBk.C w A1 L.length L) :
    Calls Try.prog 92 #[k.val A c, .slice A1 L.length c1] w (RetQ w (TupI3 w (beV k usL L) (beC k usL L) (beE k usL L))) := by
  have HOK := Aside0.mk hok
  have HOL := Aside0.mk hoL
  have hm := Kd.C_max hC
  have hm1 := Kd.C_max hL
  have HB := Aside0.mk (balloc (Below.refl w.heap.size w) (.cells #[.int .i16 k.wd, .int .i32 k.ld, .slice A k.hs.length c] 51))
  have HX := Aside0.mk (CsAt.box w k A c 51)
  have HBE := Aside0.mk (best_c k A c A1 c1 L 141 #[] usL hok hoL (fun _ => pzUs k) hc1 ⟨_, Try.func141, rfl, rfl⟩ (w.alloc (.cells #[.int .i16 k.wd, .int .i32 k.ld, .slice A k.hs.length c] 51)) (Kd.C_alloc hC _) (Kd.C_alloc hL _) (fun hk hL W hW M A' c' s hM hft h => by have := (used_c A' c' M W (Kd.C_max h)).mono fun e w' h => h.ret; simpa using this))
  simp only [Cs.val] at HBE ⊢
  generalize beV k usL L = R at HBE ⊢
  generalize beC k usL L = e0 at HBE ⊢
  generalize beE k usL L = e1 at HBE ⊢
  obtain ⟨y0, y1, y2⟩ := HX.out
  clear hC hL hok hoL
  go_enter Try.func92, Try.ntmps92
  go_wp2_with fail
  refine HBE.out.mono ?_; rintro _ w1 ⟨_, rfl, hb1, v, rfl, hv⟩
  have HB1 := Aside0.mk (bstep HB.out hb1)
  have HV := Aside0.mk (show NewI w R v w1 from Kd.R_lower hv HB.out.size)
  clear hb1 hv y0 y1 y2
  go_wp2
  go_ret3
  exact ret_tup3 HV.out HB1.out
set_option maxHeartbeats 2000000 in
theorem LeastCost_c (k : Cs) (A : Option Addr) (c : Nat) (A1 : Option Addr) (c1 : Nat) (L : List Bk) (hok : k.ok) (hoL : OkL L) (hc1 : L.length ≤ c1) (w : World) (hC : (Kd.int .i16).C w A k.hs.length k.hs) (hL : kBk.C w A1 L.length L) :
    Calls Try.prog 93 #[k.val A c, .slice A1 L.length c1] w (RetQ w (TupI3 w (beV k (sqL k) L) (beC k (sqL k) L) (beE k (sqL k) L))) := by
  have HOK := Aside0.mk hok
  have HOL := Aside0.mk hoL
  have hm := Kd.C_max hC
  have hm1 := Kd.C_max hL
  have HB := Aside0.mk (balloc (Below.refl w.heap.size w) (.cells #[.int .i16 k.wd, .int .i32 k.ld, .slice A k.hs.length c] 51))
  have HX := Aside0.mk (CsAt.box w k A c 51)
  have HBE := Aside0.mk (best_c k A c A1 c1 L 143 #[k.val A c] (sqL k) hok hoL (fun hk => pzSq hk) hc1 ⟨_, Try.func143, rfl, rfl⟩ (w.alloc (.cells #[.int .i16 k.wd, .int .i32 k.ld, .slice A k.hs.length c] 51)) (Kd.C_alloc hC _) (Kd.C_alloc hL _) (fun hk hL W hW M A' c' s hM hft h => by have := square_c k A c A' c' M s HOK.out hk (hL.sub hM) (fun b hb => HOL.out b (hM.subset hb)) hft W h; simpa using this))
  simp only [Cs.val] at HBE ⊢
  generalize beV k (sqL k) L = R at HBE ⊢
  generalize beC k (sqL k) L = e0 at HBE ⊢
  generalize beE k (sqL k) L = e1 at HBE ⊢
  obtain ⟨y0, y1, y2⟩ := HX.out
  clear hC hL hok hoL
  go_enter Try.func93, Try.ntmps93
  go_wp2_with fail
  refine HBE.out.mono ?_; rintro _ w1 ⟨_, rfl, hb1, v, rfl, hv⟩
  have HB1 := Aside0.mk (bstep HB.out hb1)
  have HV := Aside0.mk (show NewI w R v w1 from Kd.R_lower hv HB.out.size)
  clear hb1 hv y0 y1 y2
  go_wp2
  go_ret3
  exact ret_tup3 HV.out HB1.out
set_option maxHeartbeats 2000000 in
theorem specFewestShelves_c (k : Cs) (A : Option Addr) (c : Nat) (A1 : Option Addr) (c1 : Nat) (L : List Bk) (hok : k.ok) (hoL : OkL L) (hc1 : L.length ≤ c1) (w : World) (hC : (Kd.int .i16).C w A k.hs.length k.hs) (hL : kBk.C w A1 L.length L) :
    Calls Try.prog 91 #[k.val A c, .slice A1 L.length c1] w (RetQ w (TupI3 w (beV k usL L) (beC k usL L) (beE k usL L))) := by
  have hm := Kd.C_max hC
  have hm1 := Kd.C_max hL
  have HB := Aside0.mk (balloc (Below.refl w.heap.size w) (.cells #[.int .i16 k.wd, .int .i32 k.ld, .slice A k.hs.length c] 51))
  have HBE := Aside0.mk (l02Best_c k A c ⟨w.heap.size, 0, none⟩ A1 c1 L true hok hoL hc1 (w.alloc (.cells #[.int .i16 k.wd, .int .i32 k.ld, .slice A k.hs.length c] 51)) (CsAt.box w k A c 51) (Kd.C_alloc hC _) (Kd.C_alloc hL _))
  rw [pzB_us] at HBE
  simp only [Cs.val] at HBE ⊢
  generalize beV k usL L = R at HBE ⊢
  generalize beC k usL L = e0 at HBE ⊢
  generalize beE k usL L = e1 at HBE ⊢
  clear hC hL hok hoL
  go_enter Try.func91, Try.ntmps91
  go_wp2_with fail
  refine HBE.out.mono ?_; rintro _ w1 ⟨_, rfl, hb1, v, rfl, hv⟩
  have HB1 := Aside0.mk (bstep HB.out hb1)
  have HV := Aside0.mk (show NewI w R v w1 from Kd.R_lower hv HB.out.size)
  clear hb1 hv
  go_wp2
  go_ret3
  exact ret_tup3 HV.out HB1.out
set_option maxHeartbeats 2000000 in
theorem specLeastCost_c (k : Cs) (A : Option Addr) (c : Nat) (A1 : Option Addr) (c1 : Nat) (L : List Bk) (hok : k.ok) (hoL : OkL L) (hc1 : L.length ≤ c1) (w : World) (hC : (Kd.int .i16).C w A k.hs.length k.hs) (hL : kBk.C w A1 L.length L) :
    Calls Try.prog 86 #[k.val A c, .slice A1 L.length c1] w (RetQ w (TupI3 w (beV k (sqL k) L) (beC k (sqL k) L) (beE k (sqL k) L))) := by
  have hm := Kd.C_max hC
  have hm1 := Kd.C_max hL
  have HB := Aside0.mk (balloc (Below.refl w.heap.size w) (.cells #[.int .i16 k.wd, .int .i32 k.ld, .slice A k.hs.length c] 51))
  have HBE := Aside0.mk (l02Best_c k A c ⟨w.heap.size, 0, none⟩ A1 c1 L false hok hoL hc1 (w.alloc (.cells #[.int .i16 k.wd, .int .i32 k.ld, .slice A k.hs.length c] 51)) (CsAt.box w k A c 51) (Kd.C_alloc hC _) (Kd.C_alloc hL _))
  rw [pzB_sq] at HBE
  simp only [Cs.val] at HBE ⊢
  generalize beV k (sqL k) L = R at HBE ⊢
  generalize beC k (sqL k) L = e0 at HBE ⊢
  generalize beE k (sqL k) L = e1 at HBE ⊢
  clear hC hL hok hoL
  go_enter Try.func86, Try.ntmps86
  go_wp2_with fail
  refine HBE.out.mono ?_; rintro _ w1 ⟨_, rfl, hb1, v, rfl, hv⟩
  have HB1 := Aside0.mk (bstep HB.out hb1)
  have HV := Aside0.mk (show NewI w R v w1 from Kd.R_lower hv HB.out.size)
  clear hb1 hv
  go_wp2
  go_ret3
  exact ret_tup3 HV.out HB1.out
set_option maxHeartbeats 4000000 in
theorem TableOf_c (k : Cs) (A : Option Addr) (c : Nat) (A1 : Option Addr) (c1 : Nat) (L : List Bk) (hok : k.ok) (hoL : OkL L) (hc1 : L.length ≤ c1) (w : World) (hC : (Kd.int .i16).C w A k.hs.length k.hs) (hL : kBk.C w A1 L.length L) :
    Calls Try.prog 88 #[k.val A c, .slice A1 L.length c1] w (RetQ w (TupT w (toV k L) (eCL k L))) := by
  have hm := Kd.C_max hC
  have hm1 := Kd.C_max hL
  have HC := Aside0.mk hC
  have HL := Aside0.mk hL
  have HVC := Aside0.mk (fun W h => ValidCase_c k A c W h)
  have HVB := Aside0.mk (fun W h => ValidBooks_c A1 c1 L W h)
  have HB := Aside0.mk (balloc (Below.refl w.heap.size w) (.cells #[.int .i16 k.wd, .int .i32 k.ld, .slice A k.hs.length c] 51))
  have HX := Aside0.mk (CsAt.box w k A c 51)
  clear hC hL
  simp only [Cs.val] at HVC ⊢
  cases v1 : vCase k
  · rw [v1] at HVC
    have HE := Aside0.mk (to_bad (eCL_1 (L := L) v1))
    clear v1
    obtain ⟨y0, y1, y2⟩ := HX.out
    go_enter Try.func88, Try.ntmps88
    go_wp2_with fail
    refine (HVC.out _ (Kd.C_alloc HC.out _)).mono ?_; rintro _ w1 ⟨rfl, hb1⟩
    have HB1 := Aside0.mk (bstep HB.out hb1)
    have HX1 := Aside0.mk (HX.out.below hb1)
    clear hb1 y0 y1 y2
    obtain ⟨y0, y1, y2⟩ := HX1.out
    go_wp2_with fail
    go_ret2
    rw [HE.out.1, HE.out.2]
    exact ret_tupT OwnT.nil HB1.out
  · rw [v1] at HVC
    cases v2 : vBooks L
    · rw [v2] at HVB
      have HE := Aside0.mk (to_bad (eCL_2 (k := k) v2))
      clear v1 v2
      obtain ⟨y0, y1, y2⟩ := HX.out
      go_enter Try.func88, Try.ntmps88
      go_wp2_with fail
      refine (HVC.out _ (Kd.C_alloc HC.out _)).mono ?_; rintro _ w1 ⟨rfl, hb1⟩
      have HB1 := Aside0.mk (bstep HB.out hb1)
      have HX1 := Aside0.mk (HX.out.below hb1)
      clear hb1 y0 y1 y2
      obtain ⟨y0, y1, y2⟩ := HX1.out
      go_wp2_with fail
      refine (HVB.out _ (Kd.C_below HL.out HB1.out)).mono ?_; rintro _ w2 ⟨rfl, hb2⟩
      have HB2 := Aside0.mk (bstep HB1.out hb2)
      have HX2 := Aside0.mk (HX1.out.below hb2)
      clear hb2 y0 y1 y2
      obtain ⟨y0, y1, y2⟩ := HX2.out
      go_wp2_with fail
      go_ret2
      rw [HE.out.1, HE.out.2]
      exact ret_tupT OwnT.nil HB2.out
    · rw [v2] at HVB
      have HV0 := Aside0.mk (eCL_0 v1 v2)
      have HFO := Aside0.mk (FitOk.of v2)
      have HVK := Aside0.mk (vCase_bd v1)
      clear v1 v2
      have HOK := Aside0.mk hok
      have HOL := Aside0.mk hoL
      have HLE := Aside0.mk (fun W h1 h2 => least_c k A c A1 c1 L 143 #[k.val A c] (sqL k) hok hoL HVK.out HFO.out (pzSq HVK.out) hc1 ⟨_, Try.func143, rfl, rfl⟩ W h1 h2 (fun W hW M A' c' s hM hft h => by have := square_c k A c A' c' M s HOK.out HVK.out (HFO.out.sub hM) (fun b hb => HOL.out b (hM.subset hb)) hft W h; simpa using this))
      have HE := Aside0.mk (to_ok HV0.out)
      simp only [Cs.val] at HLE
      clear hok hoL
      obtain ⟨y0, y1, y2⟩ := HX.out
      go_enter Try.func88, Try.ntmps88
      go_wp2_with fail
      refine (HVC.out _ (Kd.C_alloc HC.out _)).mono ?_; rintro _ w1 ⟨rfl, hb1⟩
      have HB1 := Aside0.mk (bstep HB.out hb1)
      have HX1 := Aside0.mk (HX.out.below hb1)
      clear hb1 y0 y1 y2
      obtain ⟨y0, y1, y2⟩ := HX1.out
      go_wp2_with fail
      refine (HVB.out _ (Kd.C_below HL.out HB1.out)).mono ?_; rintro _ w2 ⟨rfl, hb2⟩
      have HB2 := Aside0.mk (bstep HB1.out hb2)
      have HX2 := Aside0.mk (HX1.out.below hb2)
      clear hb2 y0 y1 y2
      obtain ⟨y0, y1, y2⟩ := HX2.out
      go_wp2_with fail
      refine (HLE.out _ (Kd.C_below HC.out HB2.out) (Kd.C_below HL.out HB2.out)).mono ?_; rintro _ w3 ⟨v3, rfl, hb3, X, hT3⟩
      have HB3 := Aside0.mk (bstep HB2.out hb3)
      have HT3 := Aside0.mk (hT3.lower (w0 := w) HB2.out.size)
      clear hb3 hT3 y0 y1 y2
      go_wp2
      go_ret2
      rw [HE.out, HV0.out]
      exact ret_tupT HT3.out HB3.out
set_option maxHeartbeats 4000000 in
theorem specTableOf_c (k : Cs) (A : Option Addr) (c : Nat) (A1 : Option Addr) (c1 : Nat) (L : List Bk) (hok : k.ok) (hoL : OkL L) (hc1 : L.length ≤ c1) (w : World) (hC : (Kd.int .i16).C w A k.hs.length k.hs) (hL : kBk.C w A1 L.length L) :
    Calls Try.prog 87 #[k.val A c, .slice A1 L.length c1] w (RetQ w (TupT w (toV k L) (eCL k L))) := by
  have hm := Kd.C_max hC
  have hm1 := Kd.C_max hL
  have HA := Aside0.mk (box_asked k A c A1 c1 L hok hoL w hC hL)
  have HC := Aside0.mk hC
  have HL := Aside0.mk hL
  have HB := Aside0.mk (balloc (Below.refl w.heap.size w) (.cells #[.int .i16 k.wd, .int .i32 k.ld, .slice A k.hs.length c] 51))
  have HX := Aside0.mk (CsAt.box w k A c 51)
  clear hC hL
  simp only [Cs.val]
  rcases eCL_split k L with ⟨hv, v1, v2⟩ | hv
  · have HE := Aside0.mk (to_ok hv)
    have HV0 := Aside0.mk hv
    have HTB := Aside0.mk (fun W h1 h2 h3 => l02Table_c k A c ⟨w.heap.size, 0, none⟩ A1 c1 L false hok (vCase_bd v1) (FitOk.of v2) hc1 W h1 h2 h3)
    rw [hv] at HA
    rw [pzB_sq] at HTB
    clear hv v1 v2 hok hoL
    go_enter Try.func87, Try.ntmps87
    go_wp2_with fail
    refine HA.out.mono ?_; rintro _ w1 ⟨rfl, hb1⟩
    have HB1 := Aside0.mk (bstep HB.out hb1)
    have HX1 := Aside0.mk (HX.out.below hb1)
    clear hb1
    go_wp2_with fail
    refine (HTB.out _ HX1.out (Kd.C_below HC.out HB1.out) (Kd.C_below HL.out HB1.out)).mono ?_; rintro _ w3 ⟨v3, rfl, hb3, X, hT3⟩
    have HB3 := Aside0.mk (bstep HB1.out hb3)
    have HT3 := Aside0.mk (hT3.lower (w0 := w) HB1.out.size)
    clear hb3 hT3
    go_wp2
    go_ret2
    rw [HE.out, HV0.out]
    exact ret_tupT HT3.out HB3.out
  · have HE := Aside0.mk (to_bad hv)
    rw [hv] at HA
    clear hv hok hoL
    go_enter Try.func87, Try.ntmps87
    go_wp2_with fail
    refine HA.out.mono ?_; rintro _ w1 ⟨rfl, hb1⟩
    have HB1 := Aside0.mk (bstep HB.out hb1)
    clear hb1
    go_wp2_with fail
    go_ret2
    rw [HE.out.1, HE.out.2]
    exact ret_tupT (OwnT.zero HB1.out.size) (balloc HB1.out _)
end Go.Proofs.Ytdippdkneeocfaa
