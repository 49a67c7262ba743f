/- Tables that are proofs: the program's walk. -/
import Derived.Test.YtdippdkneeocfaaTabA
import Derived.StillTailTactics
import Derived.Still
import Derived.Deep.QuietTactic
import Derived.BigQuiet
import Derived.Deep.RegionHeld3
namespace Go.Proofs.Ytdippdkneeocfaa
open Go.RowKit Go.Proofs.YtdippdkneeocfaaW.PrintWords Go.Proofs.YtdippdkneeocfaaW.PrintMore
set_option linter.unusedVariables false
set_option linter.unusedSimpArgs false
set_option maxRecDepth 100000

theorem wrap_suc (n : Nat) (h : n ≤ 4611686018427387904) : IntKind.i64.wrap ((n : Int) + 1) = (n : Int) + 1 := by simp only [IntKind.wrap, IntKind.bits, IntKind.signed, Bool.true_and, decide_eq_true_eq, ge_iff_le]; split <;> omega
theorem wrap_take {a z : Int} (h0 : -1 ≤ a) (h1 : a ≤ 9223372036854775807) (h2 : 0 ≤ z) (h3 : z ≤ 4000000) : IntKind.i64.wrap (a - z) = a - z := by simp only [IntKind.wrap, IntKind.bits, IntKind.signed, Bool.true_and, decide_eq_true_eq, ge_iff_le]; split <;> omega
theorem sq_bd' {k : Cs} {M : List Bk} {s : Nat} (hk : CsBd k) (hM : FitOk M) (hf : fitL k s M = true) : 0 ≤ sqL k M ∧ sqL k M ≤ 4000000 := by
  obtain ⟨f0, f1⟩ := frL_bd hk hM hf
  obtain ⟨g0, g1⟩ := sq_bd f0 f1
  unfold sqL
  split <;> omega
set_option maxHeartbeats 8000000 in
theorem isProof_c (k : Cs) (A : Option Addr) (c : Nat) (A1 : Option Addr) (c1 : Nat) (L : List Bk) (A2 : Option Addr) (c2 : Nat) (T : List (List Int)) (hok : k.ok) (hoL : OkL L) (hVK : CsBd k) (hFO : FitOk L) (hoT : ∀ r, r ∈ T → OkI64 r) (hc1 : L.length ≤ c1) (w : World) (hC : (Kd.int .i16).C w A k.hs.length k.hs) (hL : kBk.C w A1 L.length L) (hT : kT.C w A2 T.length T) :
    Calls Try.prog 146 #[k.val A c, .slice A1 L.length c1, .slice A2 T.length c2] w (Ret w (.bool (prf k L T))) := by
  have hm := Kd.C_max hC
  have hm1 := Kd.C_max hL
  have hmT := Kd.C_max hT
  have HC := Aside0.mk hC
  have HL := Aside0.mk hL
  have HT := Aside0.mk hT
  have HOK := Aside0.mk hok
  have HOL := Aside0.mk hoL
  have HOT := Aside0.mk hoT
  have HVK := Aside0.mk hVK
  have HFO := Aside0.mk hFO
  have hl60 := hFO.len
  have hn12 := hVK.n.2
  have HB := Aside0.mk (balloc (Below.refl w.heap.size w) (.cells #[.int .i16 k.wd, .int .i32 k.ld, .slice A k.hs.length c] 51))
  have HX := Aside0.mk (CsAt.box w k A c 51)
  clear hC hL hT hok hoL hoT hVK hFO
  simp only [Cs.val]
  obtain ⟨y0, y1, y2⟩ := HX.out
  go_enter Try.func146, Try.ntmps146
  go_wp2_with fail
  go_region
  have HX1 := Aside0.mk (HX.out.below (bdrew (balloc (Below.refl _ _) (.cells #[.int .i64 (L.length : Int)] 3))))
  have HB1 := Aside0.mk (bdrew (balloc HB.out (.cells #[.int .i64 (L.length : Int)] 3)))
  have hN : (World.drew ((w.alloc (.cells #[.int .i16 k.wd, .int .i32 k.ld, .slice A k.hs.length c] 51)).alloc (.cells #[.int .i64 (L.length : Int)] 3))).cell? ⟨w.heap.size + 1, 0, none⟩ = some (.int .i64 (L.length : Int)) := by
    rw [show w.heap.size + 1 = (w.alloc (.cells #[.int .i16 k.wd, .int .i32 k.ld, .slice A k.hs.length c] 51)).heap.size by simp]
    exact (blk_cell (blk_new _ _) 0).trans rfl
  clear y0 y1 y2 HX HB
  generalize hwn : World.drew ((w.alloc (.cells #[.int .i16 k.wd, .int .i32 k.ld, .slice A k.hs.length c] 51)).alloc (.cells #[.int .i64 (L.length : Int)] 3)) = w1 at HX1 HB1 hN ⊢
  clear hwn
  have HN := Aside0.mk (fun W (h : Below w1.heap.size w1 W) => pw_cell_below h hN)
  obtain ⟨X, hX, hCX, hrow⟩ := si_of HT.out
  have hXl : X.length = T.length := by rw [← hX, List.length_map]
  have HA := Aside0.mk (areAllSI_c A2 c2 X 174 #[.pointer (some ⟨w.heap.size + 1, 0, none⟩)] (fun x => rowOkB L.length x.L) w1 (Kd.C_below hCX HB1.out) ⟨_, Try.func174, rfl, rfl⟩ (fun W hW x hx => pfRow_c x (w.heap.size + 1) L.length hl60 W (HN.out W hW) (Kd.C_below (Kd.C_below (hrow x hx) HB1.out) hW)))
  rw [hXl] at HA
  have hall := all_rows (L := L) hX
  have HALL := Aside0.mk hall
  clear hX hCX hrow hXl hall
  generalize X.all (fun x => rowOkB L.length x.L) = ab at HA HALL
  by_cases hlen : T.length = k.hs.length + 1
  · have hb : ((T.length : Int) != (k.hs.length : Int) + 1) = false := by simp; omega
    have HLN := Aside0.mk hlen
    clear hlen
    cases ab
    · have HR := Aside0.mk (prf_no (fun h => by have := HALL.out.2 ⟨h.rows, h.low⟩; cases this) : prf k L T = false)
      clear hN
      go_wp2_with fail
      refine HA.out.mono ?_; rintro _ w2 ⟨rfl, hb1⟩
      have HB2 := Aside0.mk (bstep HB1.out hb1)
      clear hb1
      go_wp2_with fail
      go_ret
      exact ⟨ret_bool HR.out.symm, HB2.out⟩
    · have HRW := Aside0.mk (HALL.out.1 rfl)
      clear hN
      go_wp2_with fail
      refine HA.out.mono ?_; rintro _ w2 ⟨rfl, hb1⟩
      have HB2 := Aside0.mk (bstep HB1.out hb1)
      have HX2 := Aside0.mk (HX1.out.below hb1)
      have HN2 := Aside0.mk (HN.out _ hb1)
      clear hb1 HA HALL HN HX1 HB1
      obtain ⟨ad, r, A', c', rfl, hbr, hxr, hc', hCr⟩ := at_row (Kd.C_below HT.out HB2.out) k.hs.length (by have := HLN.out; omega)
      have HRL := Aside0.mk (HRW.out.1 r (mem_of hbr.out))
      have hrm := Kd.C_max hCr.out
      have i0 : (0 : Int) ≤ (k.hs.length : Int) := by omega
      have i1 : (k.hs.length : Int) < (T.length : Int) := by have := HLN.out; omega
      go_wp2_with fail
      have hN2 := HN2.out
      go_loopg [37] r.length (fun gk v37 wr => ∃ i : Nat, i + gk = r.length ∧ v37 = .int .i64 i ∧ Aside0 (∀ j, j < i → (j < L.length → tb T k.hs.length j = -1) ∧ (j = L.length → tb T k.hs.length j = 0)) ∧ w2 = wr)
      case atStart => exact ⟨0, by omega, rfl, ⟨fun j h => absurd h (by omega)⟩, rfl⟩
      case round =>
        obtain ⟨i, hk, rfl, hp, rfl⟩ := hrel
        have HK := Aside0.mk hk
        by_cases hlt : i < r.length
        · obtain ⟨ad1, x, rfl, hbx, hxx⟩ := at_int' hCr.out i hlt
          have HTB := Aside0.mk (tb_at hbr.out hbx.out)
          have hil : i ≤ L.length := by have := HRL.out; omega
          have i2 : (0 : Int) ≤ (i : Int) := by omega
          have i3 : (i : Int) < (r.length : Int) := by omega
          clear hk hCr
          by_cases hin : i < L.length
          · have d0 : decide ((i : Int) < (L.length : Int)) = true := decide_eq_true (by omega)
            by_cases hx1 : x = -1
            · subst hx1
              go_wp2
              go_roundg (gk - 1)
              case measure => have := HK.out; omega
              case rel => exact ⟨i + 1, by have := HK.out; omega, by go_num, ⟨fun j hj => by
                by_cases hji : j < i
                · exact hp.out j hji
                · have : j = i := by omega
                  subst this
                  exact ⟨fun _ => HTB.out, fun h => absurd h (by omega)⟩⟩, rfl⟩
            · have hb2 : (x != -1) = true := by simpa using hx1
              have HR := Aside0.mk (prf_no (fun h => hx1 (by rw [← HTB.out]; exact h.last i hin)) : prf k L T = false)
              clear hx1
              go_wp2
              go_ret
              exact ⟨ret_bool HR.out.symm, HB2.out⟩
          · have HIE := Aside0.mk (show i = L.length by omega)
            have d0 : decide ((i : Int) < (L.length : Int)) = false := decide_eq_false (by omega)
            by_cases hx1 : x = 0
            · subst hx1
              go_wp2
              go_roundg (gk - 1)
              case measure => have := HK.out; omega
              case rel => exact ⟨i + 1, by have := HK.out; omega, by go_num, ⟨fun j hj => by
                by_cases hji : j < i
                · exact hp.out j hji
                · have : j = i := by omega
                  subst this
                  exact ⟨fun h => absurd h hin, fun _ => HTB.out⟩⟩, rfl⟩
            · have hb2 : (x != 0) = true := by simpa using hx1
              have HR := Aside0.mk (prf_no (fun h => hx1 (by rw [← HTB.out, HIE.out]; exact h.zero)) : prf k L T = false)
              clear hx1
              go_wp2
              go_ret
              exact ⟨ret_bool HR.out.symm, HB2.out⟩
        · have HLAST := Aside0.mk (show ∀ j, j ≤ L.length → (j < L.length → tb T k.hs.length j = -1) ∧ (j = L.length → tb T k.hs.length j = 0) from fun j hj => hp.out j (by have := HRL.out; omega))
          clear hk
          go_wp2
          clear hp HK hlt HRL hbr hxr hCr hc' hrm i0 i1
          obtain ⟨gq, rfl⟩ : ∃ g : Nat, g = gk := ⟨_, rfl⟩
          go_loopg [60] k.hs.length (fun gk v60 wr => ∃ s : Nat, s + gk = k.hs.length ∧ v60 = .int .i64 s ∧ Aside0 (∀ s', s' < s → ∀ i, i ≤ L.length → roP k L T s' i) ∧ Aside0 (Below w2.heap.size w2 wr))
          case atStart => exact ⟨0, by omega, rfl, ⟨fun s' h => absurd h (by omega)⟩, ⟨Below.refl _ _⟩⟩
          case round =>
            obtain ⟨s, hk, rfl, hps, hb⟩ := hrel
            have HKs := Aside0.mk hk
            by_cases hlt : s < k.hs.length
            · obtain ⟨gs, rfl⟩ : ∃ g : Nat, g = gk := ⟨_, rfl⟩
              obtain ⟨ws, rfl⟩ : ∃ W : World, W = wr := ⟨_, rfl⟩
              have hNs := pw_cell_below hb.out HN2.out
              have is0 : (0 : Int) ≤ (s : Int) := by omega
              clear hk hN2
              go_wp2
              go_loopg [65] (L.length + 1) (fun gk v65 wr => ∃ i : Nat, i + gk = L.length + 1 ∧ v65 = .int .i64 i ∧ Aside0 (∀ i', i' < i → roP k L T s i') ∧ Aside0 (Below ws.heap.size ws wr))
              case atStart => exact ⟨0, by omega, rfl, ⟨fun i' h => absurd h (by omega)⟩, ⟨Below.refl _ _⟩⟩
              case round =>
                obtain ⟨i, hk, rfl, hpi, hbi⟩ := hrel
                have HKi := Aside0.mk hk
                by_cases hil : i < L.length + 1
                · obtain ⟨gi, rfl⟩ : ∃ g : Nat, g = gk := ⟨_, rfl⟩
                  obtain ⟨wi, rfl⟩ : ∃ W : World, W = wr := ⟨_, rfl⟩
                  clear hk hNs
                  have hdi : decide ((i : Int) < (L.length : Int) + 1) = true := decide_eq_true (by omega)
                  have HBi := Aside0.mk (show Below w2.heap.size w2 wi from hb.out.trans (hbi.out.mono hb.out.size))
                  go_wp2
                  try simp only [hdi]
                  clear hdi
                  go_loopg [13] (L.length + 1 - i) (fun gk v13 wr => ∃ m : Nat, m + gk = L.length + 1 ∧ v13 = .int .i64 m ∧ Aside0 (i ≤ m ∧ ∀ j, i ≤ j → j < m → fitL k s (subL L i j) = true ∧ stP k L T s i j) ∧ Aside0 (Below wi.heap.size wi wr))
                  case atStart => exact ⟨i, by omega, rfl, ⟨Nat.le_refl _, fun j h1 h2 => absurd h1 (by omega)⟩, ⟨Below.refl _ _⟩⟩
                  case round =>
                    obtain ⟨m, hk, rfl, hpm, hbm⟩ := hrel
                    have HKm := Aside0.mk hk
                    have HBr2 := Aside0.mk (HBi.out.trans (hbm.out.mono HBi.out.size))
                    have HBr := Aside0.mk (HB2.out.trans (HBr2.out.mono HB2.out.size))
                    have HXr := Aside0.mk (HX2.out.below HBr2.out)
                    obtain ⟨y0, y1, y2⟩ := HXr.out
                    have yO0 : ∀ p : Over wr, p.W.cell? ⟨w.heap.size, 0, none⟩ = some (.int .i16 k.wd) := Over.cell y0
                    have yO1 : ∀ p : Over wr, p.W.cell? ⟨w.heap.size, 1, none⟩ = some (.int .i32 k.ld) := Over.cell y1
                    have yO2 : ∀ p : Over wr, p.W.cell? ⟨w.heap.size, 2, none⟩ = some (.slice A k.hs.length c) := Over.cell y2
                    have nO : ∀ p : Over wr, p.W.cell? ⟨w.heap.size + 1, 0, none⟩ = some (.int .i64 (L.length : Int)) := Over.cell (pw_cell_below HBr2.out HN2.out)
                    have him := hpm.out.1
                    by_cases hml : m ≤ L.length
                    · obtain ⟨Ax, cx, hcut, hcx, hCC⟩ := cut_bk A1 c1 L (i : Int) (m : Int) (by omega) (by omega) (by omega) hc1
                      have HCC := Aside0.mk hCC
                      have HF := Aside0.mk (fun W h1 h2 => fits_c k A c s Ax cx (subL L (i : Int) (m : Int)) HOK.out (fun b hb => HOL.out b ((subL_sub L _ _).subset hb)) hlt W h1 h2)
                      have HSQ := Aside0.mk (fun (hf : fitL k s (subL L (i : Int) (m : Int)) = true) W h => square_c k A c Ax cx (subL L (i : Int) (m : Int)) s HOK.out HVK.out (HFO.out.sub (subL_sub L _ _)) (fun b hb => HOL.out b ((subL_sub L _ _).subset hb)) hf W h)
                      simp only [Cs.val] at HF HSQ
                      have d0 : decide ((m : Int) ≤ (L.length : Int)) = true := decide_eq_true (by omega)
                      have d0' : decide (m ≤ L.length) = true := decide_eq_true hml
                      have im0 : (0 : Int) ≤ (m : Int) := by omega
                      clear hk hCC
                      cases hft : fitL k s (subL L (i : Int) (m : Int))
                      · have HRO := Aside0.mk (show roP k L T s i from fun m' h1 h2 hf => by
                          by_cases h : m' < m
                          · exact (hpm.out.2 m' h1 h).2
                          · have := hf m him (by omega)
                            rw [hft] at this
                            cases this)
                        simp only [hft] at HF
                        clear hft HSQ
                        generalize subL L (i : Int) (m : Int) = M at HF hcut hcx HCC
                        go_wp2_with fail
                        refine region_over (by kernel_rfl) (by kernel_rfl) ?_
                        repeat (go_big_quiet_step (first | (go_at_call 130; exact Calls.over_of (HF.out _ (Kd.C_below HC.out (HBr.out.trans ((Over.h _).mono HBr.out.size))) (HCC.out _ (Kd.C_below HL.out (HBr.out.trans ((Over.h _).mono HBr.out.size))))))))
                        refine wpQuiet_nil ?_
                        intro wq1 hw'
                        have hq_wq1 := over_out hw'
                        clear hw'
                        have HQ := Aside0.mk (bstep hbm.out hq_wq1)
                        clear yO0 yO1 yO2 nO hcut y0 y1 y2 hq_wq1
                        go_wp2
                        go_roundg (gi - 1)
                        case measure => have := HKi.out; omega
                        case rel => exact ⟨i + 1, by have := HKi.out; omega, by go_num, ⟨fun i' h' => by
                          by_cases h : i' < i
                          · exact hpi.out i' h
                          · have : i' = i := by omega
                            subst this
                            exact HRO.out⟩, ⟨hbi.out.trans (HQ.out.mono hbi.out.size)⟩⟩
                      · have HSQ' := Aside0.mk (fun W h => HSQ.out hft W h)
                        have HFT := Aside0.mk hft
                        have HFT' := Aside0.mk hft
                        have zb := sq_bd' HVK.out (HFO.out.sub (subL_sub L (i : Int) (m : Int))) hft
                        simp only [hft] at HF
                        have HSTP := Aside0.mk (show stP k L T s i m ↔ (tb T (s + 1) m = -1 ∨ (tb T s i ≠ -1 ∧ tb T s i - sqL k (subL L (i : Int) (m : Int)) ≤ tb T (s + 1) m)) from Iff.rfl)
                        clear hft HSQ
                        generalize subL L (i : Int) (m : Int) = M at HF hcut hcx HCC HSQ' zb HFT HSTP
                        generalize sqL k M = z at HSQ' zb HSTP
                        obtain ⟨z0, z1⟩ := zb
                        go_wp2_with fail
                        refine region_over (by kernel_rfl) (by kernel_rfl) ?_
                        repeat (go_big_quiet_step (first | (go_at_call 130; exact Calls.over_of (HF.out _ (Kd.C_below HC.out (HBr.out.trans ((Over.h _).mono HBr.out.size))) (HCC.out _ (Kd.C_below HL.out (HBr.out.trans ((Over.h _).mono HBr.out.size))))))))
                        refine wpQuiet_nil ?_
                        intro wq1 hw'
                        have hq_wq1 := over_out hw'
                        clear hw'
                        have HQ := Aside0.mk (bstep hbm.out hq_wq1)
                        have HQ2 := Aside0.mk (HBr2.out.trans (hq_wq1.mono HBr2.out.size))
                        have HQr := Aside0.mk (HBr.out.trans (hq_wq1.mono HBr.out.size))
                        clear yO0 yO1 yO2 nO y0 y1 y2 hq_wq1
                        obtain ⟨adr, r1, B1, d1, e1, hbr1, hxr1, hd1, hCr1⟩ := at_row (Kd.C_below HT.out HQr.out) (s + 1) (by have := HLN.out; omega)
                        cases e1
                        obtain ⟨adr, r2, B2, d2, e1, hbr2, hxr2, hd2, hCr2⟩ := at_row (Kd.C_below HT.out HQr.out) s (by have := HLN.out; omega)
                        cases e1
                        obtain ⟨a1, rest, rfl, hbx1, hxx1⟩ := at_int' hCr1.out m (by have := HRW.out.1 r1 (mem_of hbr1.out); omega)
                        obtain ⟨a2, own, rfl, hbx2, hxx2⟩ := at_int' hCr2.out i (by have := HRW.out.1 r2 (mem_of hbr2.out); omega)
                        rw [tb_at hbr1.out hbx1.out, tb_at hbr2.out hbx2.out] at HSTP
                        have o0 := HRW.out.2 r2 (mem_of hbr2.out) own (mem_of hbx2.out)
                        have o1 := (HOT.out r2 (mem_of hbr2.out) own (mem_of hbx2.out)).2
                        rw [add_suc] at hxr1
                        have xr1 : ∀ p : Over wq1, _ := Over.cell hxr1
                        have xr2 : ∀ p : Over wq1, _ := Over.cell hxr2
                        have xx1 : ∀ p : Over wq1, _ := Over.cell hxx1
                        have xx2 : ∀ p : Over wq1, _ := Over.cell hxx2
                        have hws := wrap_suc s (by omega)
                        have i5 : (s : Int) + 1 < (T.length : Int) := by have := HLN.out; omega
                        have i6 : (s : Int) < (T.length : Int) := by omega
                        have i7 : (m : Int) < (r1.length : Int) := by have := HRW.out.1 r1 (mem_of hbr1.out); omega
                        have i8 : (i : Int) < (r2.length : Int) := by have := HRW.out.1 r2 (mem_of hbr2.out); omega
                        have i9 : (0 : Int) ≤ (s : Int) + 1 := by omega
                        have ii0 : (0 : Int) ≤ (i : Int) := by omega
                        have ht1 : ((s : Int) + 1).toNat = s + 1 := by omega
                        clear hbr1 hbr2 hbx1 hbx2 hCr1 hCr2
                        go_wp2_with fail
                        refine region_over (by kernel_rfl) (by kernel_rfl) ?_
                        repeat (go_big_quiet_step (fail))
                        refine wpQuiet_nil ?_
                        intro wq2 hw'
                        have hq_wq2 := over_out hw'
                        clear hw'
                        have HQ3 := Aside0.mk (bstep HQ.out hq_wq2)
                        have HQr3 := Aside0.mk (bstep HQr.out hq_wq2)
                        have HXr3 := Aside0.mk (HX2.out.below (bstep HQ2.out hq_wq2))
                        obtain ⟨y0, y1, y2⟩ := HXr3.out
                        have yO0 : ∀ p : Over wq2, p.W.cell? ⟨w.heap.size, 0, none⟩ = some (.int .i16 k.wd) := Over.cell y0
                        have yO1 : ∀ p : Over wq2, p.W.cell? ⟨w.heap.size, 1, none⟩ = some (.int .i32 k.ld) := Over.cell y1
                        have yO2 : ∀ p : Over wq2, p.W.cell? ⟨w.heap.size, 2, none⟩ = some (.slice A k.hs.length c) := Over.cell y2
                        have nO : ∀ p : Over wq2, p.W.cell? ⟨w.heap.size + 1, 0, none⟩ = some (.int .i64 (L.length : Int)) := Over.cell (pw_cell_below (bstep HQ2.out hq_wq2) HN2.out)
                        have hwz := wrap_take o0 o1 z0 z1
                        have HBAD := Aside0.mk (fun (hno : ¬ stP k L T s i m) => (prf_no (fun h => hno (h.st s hlt i (by omega) m him hml (fun j h1 h2 => by
                          by_cases h : j < m
                          · exact (hpm.out.2 j h1 h).1
                          · have : j = m := by omega
                            subst this
                            exact HFT'.out))) : prf k L T = false))
                        clear xr1 xr2 xx1 xx2 hxr1 hxr2 hxx1 hxx2 hq_wq2 i5 i6 i7 i8 i9 ht1 hws
                        by_cases hrest : rest = -1
                        · have hb3 : (rest != -1) = false := by simp [hrest]
                          have HST := Aside0.mk (HSTP.out.2 (Or.inl hrest))
                          clear hrest
                          go_wp2_with fail
                          refine region_over (by kernel_rfl) (by kernel_rfl) ?_
                          repeat (go_big_quiet_step (fail))
                          refine wpQuiet_nil ?_
                          intro wq3 hw'
                          have hq_wq3 := over_out hw'
                          clear hw'
                          have HQ4 := Aside0.mk (bstep HQ3.out hq_wq3)
                          clear yO0 yO1 yO2 nO y0 y1 y2 hq_wq3 hcut
                          go_wp2
                          go_roundg (gk - 1)
                          case measure => have := HKm.out; omega
                          case rel => exact ⟨m + 1, by have := HKm.out; omega, by go_num, ⟨by omega, fun j h1 h2 => by
                            by_cases h : j < m
                            · exact hpm.out.2 j h1 h
                            · have : j = m := by omega
                              subst this
                              exact ⟨HFT'.out, HST.out⟩⟩, HQ4⟩
                        · have hb3 : (rest != -1) = true := by simpa using hrest
                          by_cases hown : own = -1
                          · have hb4 : (own == -1) = true := by simp [hown]
                            have HR := Aside0.mk (HBAD.out (fun h => by rcases HSTP.out.1 h with h | h; exact hrest h; exact h.1 hown))
                            clear hrest hown
                            go_wp2_with fail
                            refine region_over (by kernel_rfl) (by kernel_rfl) ?_
                            repeat (go_big_quiet_step (fail))
                            refine wpQuiet_nil ?_
                            intro wq3 hw'
                            have hq_wq3 := over_out hw'
                            clear hw'
                            have HQ4 := Aside0.mk (bstep HQ3.out hq_wq3)
                            clear yO0 yO1 yO2 nO y0 y1 y2 hq_wq3 hcut
                            go_wp2
                            go_ret
                            exact ⟨ret_bool HR.out.symm, HB2.out.trans (Below.mono (HBi.out.trans (HQ4.out.mono HBi.out.size)) HB2.out.size)⟩
                          · have hb4 : (own == -1) = false := by simpa using hown
                            by_cases hgt : own - z ≤ rest
                            · have HST := Aside0.mk (HSTP.out.2 (Or.inr ⟨hown, hgt⟩))
                              have d3 : decide (own - z > rest) = false := decide_eq_false (by omega)
                              have d3' : decide (rest < own - z) = false := decide_eq_false (by omega)
                              clear hrest hown hgt
                              go_wp2_with fail
                              refine region_over (by kernel_rfl) (by kernel_rfl) ?_
                              repeat (go_big_quiet_step (first | (go_at_call 143; exact Calls.over_of (HSQ'.out _ (HCC.out _ (Kd.C_below HL.out (HQr3.out.trans ((Over.h _).mono HQr3.out.size))))))))
                              refine wpQuiet_nil ?_
                              intro wq3 hw'
                              have hq_wq3 := over_out hw'
                              clear hw'
                              have HQ4 := Aside0.mk (bstep HQ3.out hq_wq3)
                              clear yO0 yO1 yO2 nO y0 y1 y2 hq_wq3 hcut
                              go_wp2
                              go_roundg (gk - 1)
                              case measure => have := HKm.out; omega
                              case rel => exact ⟨m + 1, by have := HKm.out; omega, by go_num, ⟨by omega, fun j h1 h2 => by
                                by_cases h : j < m
                                · exact hpm.out.2 j h1 h
                                · have : j = m := by omega
                                  subst this
                                  exact ⟨HFT'.out, HST.out⟩⟩, HQ4⟩
                            · have HR := Aside0.mk (HBAD.out (fun h => by rcases HSTP.out.1 h with h | h; exact hrest h; exact hgt h.2))
                              have d3 : decide (own - z > rest) = true := decide_eq_true (by omega)
                              have d3' : decide (rest < own - z) = true := decide_eq_true (by omega)
                              clear hrest hown hgt
                              go_wp2_with fail
                              refine region_over (by kernel_rfl) (by kernel_rfl) ?_
                              repeat (go_big_quiet_step (first | (go_at_call 143; exact Calls.over_of (HSQ'.out _ (HCC.out _ (Kd.C_below HL.out (HQr3.out.trans ((Over.h _).mono HQr3.out.size))))))))
                              refine wpQuiet_nil ?_
                              intro wq3 hw'
                              have hq_wq3 := over_out hw'
                              clear hw'
                              have HQ4 := Aside0.mk (bstep HQ3.out hq_wq3)
                              clear yO0 yO1 yO2 nO y0 y1 y2 hq_wq3 hcut
                              go_wp2
                              go_ret
                              exact ⟨ret_bool HR.out.symm, HB2.out.trans (Below.mono (HBi.out.trans (HQ4.out.mono HBi.out.size)) HB2.out.size)⟩
                    · have HRO := Aside0.mk (show roP k L T s i from fun m' h1 h2 hf => (hpm.out.2 m' h1 (by omega)).2)
                      have d0 : decide ((m : Int) ≤ (L.length : Int)) = false := decide_eq_false (by omega)
                      have d0' : decide (m ≤ L.length) = false := decide_eq_false hml
                      clear hk
                      go_wp2_with fail
                      refine region_over (by kernel_rfl) (by kernel_rfl) ?_
                      repeat (go_big_quiet_step (fail))
                      refine wpQuiet_nil ?_
                      intro wq1 hw'
                      have hq_wq1 := over_out hw'
                      clear hw'
                      have HQ := Aside0.mk (bstep hbm.out hq_wq1)
                      clear yO0 yO1 yO2 nO y0 y1 y2 hq_wq1
                      go_wp2
                      go_roundg (gi - 1)
                      case measure => have := HKi.out; omega
                      case rel => exact ⟨i + 1, by have := HKi.out; omega, by go_num, ⟨fun i' h' => by
                        by_cases h : i' < i
                        · exact hpi.out i' h
                        · have : i' = i := by omega
                          subst this
                          exact HRO.out⟩, ⟨hbi.out.trans (HQ.out.mono hbi.out.size)⟩⟩
                · have HALLi := Aside0.mk (show ∀ i, i ≤ L.length → roP k L T s i from fun i' h => hpi.out i' (by omega))
                  clear hk
                  go_wp2
                  go_roundg (gs - 1)
                  case measure => have := HKs.out; omega
                  case rel => exact ⟨s + 1, by have := HKs.out; omega, by go_num, ⟨fun s' hs' => by
                    by_cases h : s' < s
                    · exact hps.out s' h
                    · have : s' = s := by omega
                      subst this
                      exact HALLi.out⟩, ⟨hb.out.trans (hbi.out.mono hb.out.size)⟩⟩
            · have HR := Aside0.mk (prf_yes ⟨HLN.out, HRW.out.1, HRW.out.2, fun i h => (HLAST.out i (by omega)).1 h, (HLAST.out L.length (Nat.le_refl _)).2 rfl, fun s' h => hps.out s' (by omega)⟩ : prf k L T = true)
              clear hk
              go_wp2
              go_ret
              exact ⟨ret_bool HR.out.symm, HB2.out.trans (hb.out.mono HB2.out.size)⟩
  · have HR := Aside0.mk (prf_no (fun h => hlen h.len) : prf k L T = false)
    have hb : ((T.length : Int) != (k.hs.length : Int) + 1) = true := by simp; omega
    clear hlen HA
    go_wp2_with fail
    go_ret
    exact ⟨ret_bool HR.out.symm, HB1.out⟩
end Go.Proofs.Ytdippdkneeocfaa
