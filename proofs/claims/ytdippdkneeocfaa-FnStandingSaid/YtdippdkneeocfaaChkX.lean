/- Tables that are proofs: the reference's walk; CheckTable, ProvedCost: the program's and the reference's. -/
import Derived.Test.YtdippdkneeocfaaProof
import Derived.Test.YtdippdkneeocfaaRow
import Derived.StillTailTactics
import Derived.Still
import Derived.Deep.QuietTactic
import Derived.BigQuiet
import Derived.Deep.RegionHeld3
namespace Go.Proofs.Ytdippdkneeocfaa
open Go.RowKit Go.Proofs.YtdippdkneeocfaaW.PrintWords Go.Proofs.YtdippdkneeocfaaW.PrintMore
set_option linter.unusedVariables false
set_option linter.unusedSimpArgs false
set_option maxRecDepth 100000

theorem pf_low {k : Cs} {L : List Bk} {T : List (List Int)} (h1 : T.length = k.hs.length + 1) (h2 : ∀ r, r ∈ T → r.length = L.length + 1) (h3 : ∀ i, i ≤ L.length → -1 ≤ tb T k.hs.length i) (h4 : ∀ s, s < k.hs.length → ∀ i, i ≤ L.length → -1 ≤ tb T s i) : ∀ r, r ∈ T → ∀ x, x ∈ r → -1 ≤ x := by
  intro r hr x hx
  have hl := h2 r hr
  obtain ⟨s, hs⟩ := List.mem_iff_getElem?.1 hr
  obtain ⟨i, hi⟩ := List.mem_iff_getElem?.1 hx
  have s1 : s < T.length := (List.getElem?_eq_some_iff.1 hs).1
  have i1 : i < r.length := (List.getElem?_eq_some_iff.1 hi).1
  rw [← tb_at hs hi]
  by_cases h : s < k.hs.length
  · exact h4 s h i (by omega)
  · rw [show s = k.hs.length by omega]
    exact h3 i (by omega)
set_option maxHeartbeats 8000000 in
theorem l02Proof_c (k : Cs) (A : Option Addr) (c : Nat) (p : Addr) (A1 : Option Addr) (c1 : Nat) (L : List Bk) (A2 : Option Addr) (c2 : Nat) (T : List (List Int)) (hok : k.ok) (hVK : CsBd k) (hFO : FitOk L) (hoT : ∀ r, r ∈ T → OkI64 r) (hc1 : L.length ≤ c1) (w : World) (hp : CsAt w p k A c) (hC : (Kd.int .i16).C w A k.hs.length k.hs) (hL : kBk.C w A1 L.length L) (hT : kT.C w A2 T.length T) :
    Calls Try.prog 145 #[.pointer (some p), .slice A1 L.length c1, .slice A2 T.length c2] w (Ret w (.bool (prf k L T))) := by
  have hm := Kd.C_max hC
  have hm1 := Kd.C_max hL
  have hmT := Kd.C_max hT
  have HC := Aside0.mk hC
  have HL := Aside0.mk hL
  have HT := Aside0.mk hT
  have HOK := Aside0.mk hok
  have HOT := Aside0.mk hoT
  have HVK := Aside0.mk hVK
  have HFO := Aside0.mk hFO
  have HX := Aside0.mk hp
  have hl60 := hFO.len
  have hn12 := hVK.n.2
  clear hC hL hT hok hoT hVK hFO hp
  obtain ⟨y0, y1, y2⟩ := HX.out
  by_cases hlen : T.length = k.hs.length + 1
  · have hb : ((T.length : Int) != (k.hs.length : Int) + 1) = false := by simp; omega
    have hb' : (T.length != k.hs.length + 1) = false := by simp [hlen]
    have HLN := Aside0.mk hlen
    clear hlen
    go_enter Try.func145, Try.ntmps145
    go_wp2_with fail
    clear y0 y1 y2 hb hb'
    go_loopg [9] (k.hs.length + 1) (fun gk v9 wr => ∃ s : Nat, s + gk = k.hs.length + 1 ∧ v9 = .int .i64 s ∧ Aside0 (∀ s', s' < s → ∀ r, T[s']? = some r → r.length = L.length + 1) ∧ w = wr)
    case atStart => exact ⟨0, by omega, rfl, ⟨fun s' h => absurd h (by omega)⟩, rfl⟩
    case round =>
      obtain ⟨s, hk, rfl, hp, rfl⟩ := hrel
      have HK := Aside0.mk hk
      by_cases hlt : s ≤ k.hs.length
      · obtain ⟨ad, r, A', c', rfl, hbr, hxr, hc', hCr⟩ := at_row HT.out s (by have := HLN.out; omega)
        have hrm := Kd.C_max hCr.out
        have i0 : (0 : Int) ≤ (s : Int) := by omega
        have i1 : (s : Int) < (T.length : Int) := by have := HLN.out; omega
        clear hk hCr
        by_cases hrl : r.length = L.length + 1
        · have hb : ((r.length : Int) != (L.length : Int) + 1) = false := by simp; omega
          have hb' : (r.length != L.length + 1) = false := by simp [hrl]
          have HRL := Aside0.mk hrl
          clear hrl
          go_wp2
          go_roundg (gk - 1)
          case measure => have := HK.out; omega
          case rel => exact ⟨s + 1, by have := HK.out; omega, by go_num, ⟨fun s' h1 q hq => by
            by_cases h : s' < s
            · exact hp.out s' h q hq
            · have : s' = s := by omega
              subst this
              rw [hbr.out] at hq
              cases hq
              exact HRL.out⟩, rfl⟩
        · have hb : ((r.length : Int) != (L.length : Int) + 1) = true := by simp; omega
          have hb' : (r.length != L.length + 1) = true := by simpa using hrl
          have HR := Aside0.mk (prf_no (fun h => hrl (h.rows r (mem_of hbr.out))) : prf k L T = false)
          clear hrl
          go_wp2
          go_ret
          exact ⟨ret_bool HR.out.symm, Below.refl _ _⟩
      · have HRW := Aside0.mk (show ∀ r, r ∈ T → r.length = L.length + 1 from fun r hr => by
          obtain ⟨s', hs⟩ := List.mem_iff_getElem?.1 hr
          have s1 : s' < T.length := (List.getElem?_eq_some_iff.1 hs).1
          exact hp.out s' (by have := HLN.out; omega) r hs)
        clear hk
        go_wp2
        clear hp HK hlt
        obtain ⟨gq, rfl⟩ : ∃ g : Nat, g = gk := ⟨_, rfl⟩
        obtain ⟨ad, r, A', c', rfl, hbr, hxr, hc', hCr⟩ := at_row HT.out k.hs.length (by have := HLN.out; omega)
        have i1 : (k.hs.length : Int) < (T.length : Int) := by have := HLN.out; omega
        have i0 : (0 : Int) ≤ (k.hs.length : Int) := by omega
        go_loopg [10] (L.length + 1) (fun gk v10 wr => ∃ i : Nat, i + gk = L.length + 1 ∧ v10 = .int .i64 i ∧ Aside0 (∀ j, j < i → (j < L.length → tb T k.hs.length j = -1) ∧ (j = L.length → tb T k.hs.length j = 0)) ∧ w = wr)
        case atStart => exact ⟨0, by omega, rfl, ⟨fun j h => absurd h (by omega)⟩, rfl⟩
        case round =>
          obtain ⟨i, hk, rfl, hp, rfl⟩ := hrel
          have HK := Aside0.mk hk
          by_cases hlt : i ≤ L.length
          · obtain ⟨ad1, x, rfl, hbx, hxx⟩ := at_int' hCr.out i (by have := HRW.out r (mem_of hbr.out); omega)
            have HTB := Aside0.mk (tb_at hbr.out hbx.out)
            have i2 : (0 : Int) ≤ (i : Int) := by omega
            have i3 : (i : Int) < (r.length : Int) := by have := HRW.out r (mem_of hbr.out); omega
            clear hk hCr
            by_cases hin : i < L.length
            · have d0 : decide ((i : Int) < (L.length : Int)) = true := decide_eq_true (by omega)
              by_cases hx1 : x = -1
              · subst hx1
                go_wp2
                go_roundg (gk - 1)
                case measure => have := HK.out; omega
                case rel => exact ⟨i + 1, by have := HK.out; omega, by go_num, ⟨fun j hj => by
                  by_cases hji : j < i
                  · exact hp.out j hji
                  · have : j = i := by omega
                    subst this
                    exact ⟨fun _ => HTB.out, fun h => absurd h (by omega)⟩⟩, rfl⟩
              · have hb2 : (x != -1) = true := by simpa using hx1
                have HR := Aside0.mk (prf_no (fun h => hx1 (by rw [← HTB.out]; exact h.last i hin)) : prf k L T = false)
                clear hx1
                go_wp2
                go_ret
                exact ⟨ret_bool HR.out.symm, Below.refl _ _⟩
            · have hie : i = L.length := by omega
              subst hie
              have d0 : decide ((L.length : Int) < (L.length : Int)) = false := decide_eq_false (by omega)
              by_cases hx1 : x = 0
              · subst hx1
                go_wp2
                go_roundg (gk - 1)
                case measure => have := HK.out; omega
                case rel => exact ⟨L.length + 1, by have := HK.out; omega, by go_num, ⟨fun j hj => by
                  by_cases hji : j < L.length
                  · exact hp.out j hji
                  · have : j = L.length := by omega
                    subst this
                    exact ⟨fun h => absurd h hin, fun _ => HTB.out⟩⟩, rfl⟩
              · have hb2 : (x != 0) = true := by simpa using hx1
                have HR := Aside0.mk (prf_no (fun h => hx1 (by rw [← HTB.out]; exact h.zero)) : prf k L T = false)
                clear hx1
                go_wp2
                go_ret
                exact ⟨ret_bool HR.out.symm, Below.refl _ _⟩
          · have HLAST := Aside0.mk (show ∀ j, j ≤ L.length → (j < L.length → tb T k.hs.length j = -1) ∧ (j = L.length → tb T k.hs.length j = 0) from fun j hj => hp.out j (by omega))
            clear hk
            go_wp2
            clear hp HK hlt hbr hxr hCr hc' i0 i1
            obtain ⟨gq2, rfl⟩ : ∃ g : Nat, g = gk := ⟨_, rfl⟩
            go_loopg [11] k.hs.length (fun gk v11 wr => ∃ s : Nat, s + gk = k.hs.length ∧ v11 = .int .i64 s ∧ Aside0 (∀ s', s' < s → ∀ i, i ≤ L.length → -1 ≤ tb T s' i ∧ roP k L T s' i) ∧ Aside0 (Below w.heap.size w wr))
            case atStart => exact ⟨0, by omega, rfl, ⟨fun s' h => absurd h (by omega)⟩, ⟨Below.refl _ _⟩⟩
            case round =>
              obtain ⟨s, hk, rfl, hps, hb⟩ := hrel
              have HKs := Aside0.mk hk
              by_cases hlt : s < k.hs.length
              · obtain ⟨gs, rfl⟩ : ∃ g : Nat, g = gk := ⟨_, rfl⟩
                obtain ⟨ws, rfl⟩ : ∃ W : World, W = wr := ⟨_, rfl⟩
                have is0 : (0 : Int) ≤ (s : Int) := by omega
                clear hk
                go_wp2
                go_loopg [12] (L.length + 1) (fun gk v12 wr => ∃ i : Nat, i + gk = L.length + 1 ∧ v12 = .int .i64 i ∧ Aside0 (∀ i', i' < i → -1 ≤ tb T s i' ∧ roP k L T s i') ∧ Aside0 (Below ws.heap.size ws wr))
                case atStart => exact ⟨0, by omega, rfl, ⟨fun i' h => absurd h (by omega)⟩, ⟨Below.refl _ _⟩⟩
                case round =>
                  obtain ⟨i, hk, rfl, hpi, hbi⟩ := hrel
                  have HKi := Aside0.mk hk
                  by_cases hil : i ≤ L.length
                  · obtain ⟨gi, rfl⟩ : ∃ g : Nat, g = gk := ⟨_, rfl⟩
                    obtain ⟨wi, rfl⟩ : ∃ W : World, W = wr := ⟨_, rfl⟩
                    have HBi := Aside0.mk (show Below w.heap.size w wi from hb.out.trans (hbi.out.mono hb.out.size))
                    obtain ⟨adr, r2, B2, d2, e1, hbr2, hxr2, hd2, hCr2⟩ := at_row (Kd.C_below HT.out HBi.out) s (by have := HLN.out; omega)
                    have e2 := Option.some.inj e1
                    subst e2
                    clear e1
                    obtain ⟨a2, own, rfl, hbx2, hxx2⟩ := at_int' hCr2.out i (by have := HRW.out r2 (mem_of hbr2.out); omega)
                    have HTB := Aside0.mk (tb_at hbr2.out hbx2.out)
                    have o1 := (HOT.out r2 (mem_of hbr2.out) own (mem_of hbx2.out)).2
                    have i6 : (s : Int) < (T.length : Int) := by have := HLN.out; omega
                    have i8 : (i : Int) < (r2.length : Int) := by have := HRW.out r2 (mem_of hbr2.out); omega
                    have ii0 : (0 : Int) ≤ (i : Int) := by omega
                    clear hk hCr2
                    by_cases hlow : own < -1
                    · have HR := Aside0.mk (prf_no (fun h => by have := h.low r2 (mem_of hbr2.out) own (mem_of hbx2.out); omega) : prf k L T = false)
                      go_wp2
                      go_ret
                      exact ⟨ret_bool HR.out.symm, HBi.out⟩
                    · have o0 : -1 ≤ own := by omega
                      go_wp2
                      clear hxr2 hxx2 hbr2 hbx2 hlow
                      go_loopg [13] (L.length + 1 - i) (fun gk v13 wr => ∃ m : Nat, m + gk = L.length + 1 ∧ v13 = .int .i64 m ∧ Aside0 (i ≤ m ∧ ∀ j, i ≤ j → j < m → fitL k s (subL L i j) = true ∧ stP k L T s i j) ∧ Aside0 (Below wi.heap.size wi wr))
                      case atStart => exact ⟨i, by omega, rfl, ⟨Nat.le_refl _, fun j h1 h2 => absurd h1 (by omega)⟩, ⟨Below.refl _ _⟩⟩
                      case round =>
                        obtain ⟨m, hk, rfl, hpm, hbm⟩ := hrel
                        have HKm := Aside0.mk hk
                        have HBr := Aside0.mk (HBi.out.trans (hbm.out.mono HBi.out.size))
                        have him := hpm.out.1
                        by_cases hml : m ≤ L.length
                        · obtain ⟨Ax, cx, hcut, hcx, hCC⟩ := cut_bk A1 c1 L (i : Int) (m : Int) (by omega) (by omega) (by omega) hc1
                          have HPR := Aside0.mk (l02Price_c k A c s p Ax cx (subL L (i : Int) (m : Int)) false HOK.out HVK.out (HFO.out.sub (subL_sub L _ _)) hlt wr (HX.out.below HBr.out) (Kd.C_below HC.out HBr.out) (hCC _ (Kd.C_below HL.out HBr.out)))
                          have im0 : (0 : Int) ≤ (m : Int) := by omega
                          clear hk hCC
                          cases hft : fitL k s (subL L (i : Int) (m : Int))
                          · have HRO := Aside0.mk (show roP k L T s i from fun m' h1 h2 hf => by
                              by_cases h : m' < m
                              · exact (hpm.out.2 m' h1 h).2
                              · have := hf m him (by omega)
                                rw [hft] at this
                                cases this)
                            have hpv : prL k s (subL L (i : Int) (m : Int)) false = -1 := by unfold prL; rw [hft]; rfl
                            rw [hpv] at HPR
                            clear hft hpv
                            generalize subL L (i : Int) (m : Int) = M at HPR hcut hcx
                            go_wp2_with fail
                            refine HPR.out.mono ?_; rintro _ w3 ⟨rfl, hb3⟩
                            have HQ := Aside0.mk (bstep hbm.out hb3)
                            clear hb3 hcut
                            go_wp2
                            go_roundg (gi - 1)
                            case measure => have := HKi.out; omega
                            case rel => exact ⟨i + 1, by have := HKi.out; omega, by go_num, ⟨fun i' h' => by
                              by_cases h : i' < i
                              · exact hpi.out i' h
                              · have : i' = i := by omega
                                subst this
                                exact ⟨by rw [HTB.out]; exact o0, HRO.out⟩⟩, ⟨hbi.out.trans (HQ.out.mono hbi.out.size)⟩⟩
                          · have HFT := Aside0.mk hft
                            obtain ⟨z0, z1⟩ := sq_bd' HVK.out (HFO.out.sub (subL_sub L (i : Int) (m : Int))) hft
                            have hpv : prL k s (subL L (i : Int) (m : Int)) false = sqL k (subL L (i : Int) (m : Int)) := by unfold prL; rw [hft]; rfl
                            rw [hpv] at HPR
                            have HSTP := Aside0.mk (show stP k L T s i m ↔ (tb T (s + 1) m = -1 ∨ (tb T s i ≠ -1 ∧ tb T s i - sqL k (subL L (i : Int) (m : Int)) ≤ tb T (s + 1) m)) from Iff.rfl)
                            have HBAD := Aside0.mk (fun (hno : ¬ stP k L T s i m) => (prf_no (fun h => hno (h.st s hlt i hil m him hml (fun j h1 h2 => by
                              by_cases h : j < m
                              · exact (hpm.out.2 j h1 h).1
                              · have : j = m := by omega
                                subst this
                                exact HFT.out))) : prf k L T = false))
                            clear hft hpv
                            generalize subL L (i : Int) (m : Int) = M at HPR hcut hcx z0 z1 HSTP
                            generalize sqL k M = z at HPR z0 z1 HSTP
                            have hnz : ¬ z < 0 := by omega
                            go_wp2_with fail
                            refine HPR.out.mono ?_; rintro _ w3 ⟨rfl, hb3⟩
                            have HQ := Aside0.mk (bstep hbm.out hb3)
                            have HQr := Aside0.mk (HBi.out.trans (HQ.out.mono HBi.out.size))
                            clear hb3 hcut
                            obtain ⟨adr, r1, B1, d1, e1, hbr1, hxr1, hd1, hCr1⟩ := at_row (Kd.C_below HT.out HQr.out) (s + 1) (by have := HLN.out; omega)
                            have e2 := Option.some.inj e1
                            subst e2
                            clear e1
                            obtain ⟨adr, r2, B2, d2, e1, hbr2, hxr2, hd2, hCr2⟩ := at_row (Kd.C_below HT.out HQr.out) s (by have := HLN.out; omega)
                            have e2 := Option.some.inj e1
                            subst e2
                            clear e1
                            obtain ⟨a1, rest, rfl, hbx1, hxx1⟩ := at_int' hCr1.out m (by have := HRW.out r1 (mem_of hbr1.out); omega)
                            obtain ⟨a2, own', rfl, hbx2, hxx2⟩ := at_int' hCr2.out i (by have := HRW.out r2 (mem_of hbr2.out); omega)
                            have hoo : own' = own := by rw [← HTB.out]; exact (tb_at hbr2.out hbx2.out).symm
                            subst hoo
                            rw [tb_at hbr1.out hbx1.out, tb_at hbr2.out hbx2.out] at HSTP
                            rw [add_suc] at hxr1
                            have i5 : (s : Int) + 1 < (T.length : Int) := by have := HLN.out; omega
                            have i6 : (s : Int) < (T.length : Int) := by omega
                            have i7 : (m : Int) < (r1.length : Int) := by have := HRW.out r1 (mem_of hbr1.out); omega
                            have i8 : (i : Int) < (r2.length : Int) := by have := HRW.out r2 (mem_of hbr2.out); omega
                            have i9 : (0 : Int) ≤ (s : Int) + 1 := by omega
                            have hws := wrap_suc s (by omega)
                            have ht1 : ((s : Int) + 1).toNat = s + 1 := by omega
                            have hwz := wrap_take o0 o1 z0 z1
                            clear hbr1 hbr2 hbx1 hbx2 hCr1 hCr2
                            by_cases hrest : rest = -1
                            · have hb3 : (rest != -1) = false := by simp [hrest]
                              have HST := Aside0.mk (HSTP.out.2 (Or.inl hrest))
                              clear hrest
                              go_wp2
                              go_roundg (gk - 1)
                              case measure => have := HKm.out; omega
                              case rel => exact ⟨m + 1, by have := HKm.out; omega, by go_num, ⟨by omega, fun j h1 h2 => by
                                by_cases h : j < m
                                · exact hpm.out.2 j h1 h
                                · have : j = m := by omega
                                  subst this
                                  exact ⟨HFT.out, HST.out⟩⟩, HQ⟩
                            · have hb3 : (rest != -1) = true := by simpa using hrest
                              by_cases hown : own' = -1
                              · have hb4 : (own' == -1) = true := by simp [hown]
                                have HR := Aside0.mk (HBAD.out (fun h => by rcases HSTP.out.1 h with h | h; exact hrest h; exact h.1 hown))
                                clear hrest hown
                                go_wp2
                                go_ret
                                exact ⟨ret_bool HR.out.symm, HQr.out⟩
                              · have hb4 : (own' == -1) = false := by simpa using hown
                                by_cases hgt : own' - z ≤ rest
                                · have HST := Aside0.mk (HSTP.out.2 (Or.inr ⟨hown, hgt⟩))
                                  have d3 : decide (own' - z > rest) = false := decide_eq_false (by omega)
                                  have d3' : decide (rest < own' - z) = false := decide_eq_false (by omega)
                                  clear hrest hown hgt
                                  go_wp2
                                  go_roundg (gk - 1)
                                  case measure => have := HKm.out; omega
                                  case rel => exact ⟨m + 1, by have := HKm.out; omega, by go_num, ⟨by omega, fun j h1 h2 => by
                                    by_cases h : j < m
                                    · exact hpm.out.2 j h1 h
                                    · have : j = m := by omega
                                      subst this
                                      exact ⟨HFT.out, HST.out⟩⟩, HQ⟩
                                · have HR := Aside0.mk (HBAD.out (fun h => by rcases HSTP.out.1 h with h | h; exact hrest h; exact hgt h.2))
                                  have d3 : decide (own' - z > rest) = true := decide_eq_true (by omega)
                                  have d3' : decide (rest < own' - z) = true := decide_eq_true (by omega)
                                  clear hrest hown hgt
                                  go_wp2
                                  go_ret
                                  exact ⟨ret_bool HR.out.symm, HQr.out⟩
                        · have HRO := Aside0.mk (show roP k L T s i from fun m' h1 h2 hf => (hpm.out.2 m' h1 (by omega)).2)
                          clear hk
                          go_wp2
                          go_roundg (gi - 1)
                          case measure => have := HKi.out; omega
                          case rel => exact ⟨i + 1, by have := HKi.out; omega, by go_num, ⟨fun i' h' => by
                            by_cases h : i' < i
                            · exact hpi.out i' h
                            · have : i' = i := by omega
                              subst this
                              exact ⟨by rw [HTB.out]; exact o0, HRO.out⟩⟩, ⟨hbi.out.trans (hbm.out.mono hbi.out.size)⟩⟩
                  · have HALLi := Aside0.mk (show ∀ i, i ≤ L.length → -1 ≤ tb T s i ∧ roP k L T s i from fun i' h => hpi.out i' (by omega))
                    clear hk
                    go_wp2
                    go_roundg (gs - 1)
                    case measure => have := HKs.out; omega
                    case rel => exact ⟨s + 1, by have := HKs.out; omega, by go_num, ⟨fun s' hs' => by
                      by_cases h : s' < s
                      · exact hps.out s' h
                      · have : s' = s := by omega
                        subst this
                        exact HALLi.out⟩, ⟨hb.out.trans (hbi.out.mono hb.out.size)⟩⟩
              · have HR := Aside0.mk (prf_yes ⟨HLN.out, HRW.out, pf_low HLN.out HRW.out (fun i hi => by
                  by_cases h : i < L.length
                  · rw [(HLAST.out i hi).1 h]; decide
                  · rw [(HLAST.out i hi).2 (by omega)]; decide) (fun s' h i hi => (hps.out s' (by omega) i hi).1), fun i h => (HLAST.out i (by omega)).1 h, (HLAST.out L.length (Nat.le_refl _)).2 rfl, fun s' h i hi => (hps.out s' (by omega) i hi).2⟩ : prf k L T = true)
                clear hk
                go_wp2
                go_ret
                exact ⟨ret_bool HR.out.symm, hb.out⟩
  · have HR := Aside0.mk (prf_no (fun h => hlen h.len) : prf k L T = false)
    have hb : ((T.length : Int) != (k.hs.length : Int) + 1) = true := by simp; omega
    have hb' : (T.length != k.hs.length + 1) = true := by simpa using hlen
    clear hlen
    go_enter Try.func145, Try.ntmps145
    go_wp2_with fail
    go_ret
    exact ⟨ret_bool HR.out.symm, Below.refl _ _⟩
noncomputable def ctV (k : Cs) (L : List Bk) (T : List (List Int)) : Bool := decide (eCL k L = 0) && prf k L T
theorem ct_bad {k : Cs} {L : List Bk} (T : List (List Int)) (h : eCL k L = 1) : ctV k L T = false ∧ eCL k L = 1 := ⟨by unfold ctV; rw [h]; rfl, h⟩
theorem ct_ok {k : Cs} {L : List Bk} (T : List (List Int)) (h : eCL k L = 0) : ctV k L T = prf k L T := by unfold ctV; rw [h]; rfl
noncomputable def pcE (k : Cs) (L : List Bk) (T : List (List Int)) : Int := if eCL k L = 0 then (if prf k L T = true then (if tb T 0 0 = -1 then 6 else 0) else 8) else eCL k L
noncomputable def pcV (k : Cs) (L : List Bk) (T : List (List Int)) : Int := if pcE k L T = 0 then tb T 0 0 else 0
theorem pc_bad {k : Cs} {L : List Bk} (T : List (List Int)) (h : eCL k L = 1) : pcV k L T = 0 ∧ pcE k L T = 1 := by
  have h1 : pcE k L T = 1 := by unfold pcE; rw [h]; rfl
  exact ⟨by unfold pcV; rw [h1]; rfl, h1⟩
theorem pc_no {k : Cs} {L : List Bk} {T : List (List Int)} (h : eCL k L = 0) (h2 : prf k L T = false) : pcV k L T = 0 ∧ pcE k L T = 8 := by
  have h1 : pcE k L T = 8 := by unfold pcE; rw [if_pos h, h2]; rfl
  exact ⟨by unfold pcV; rw [h1]; rfl, h1⟩
theorem pc_none {k : Cs} {L : List Bk} {T : List (List Int)} (h : eCL k L = 0) (h2 : prf k L T = true) (h3 : tb T 0 0 = -1) : pcV k L T = 0 ∧ pcE k L T = 6 := by
  have h1 : pcE k L T = 6 := by unfold pcE; rw [if_pos h, if_pos h2, if_pos h3]
  exact ⟨by unfold pcV; rw [h1]; rfl, h1⟩
theorem pc_ok {k : Cs} {L : List Bk} {T : List (List Int)} (h : eCL k L = 0) (h2 : prf k L T = true) (h3 : tb T 0 0 ≠ -1) : pcV k L T = tb T 0 0 ∧ pcE k L T = 0 := by
  have h1 : pcE k L T = 0 := by unfold pcE; rw [if_pos h, if_pos h2, if_neg h3]
  exact ⟨by unfold pcV; rw [if_pos h1], h1⟩
theorem prf_P {k : Cs} {L : List Bk} {T : List (List Int)} (h : prf k L T = true) : PfP k L T := by
  by_cases hp : PfP k L T
  · exact hp
  · rw [prf_no hp] at h; cases h
set_option maxHeartbeats 4000000 in
theorem CheckTable_c (k : Cs) (A : Option Addr) (c : Nat) (A1 : Option Addr) (c1 : Nat) (L : List Bk) (A2 : Option Addr) (c2 : Nat) (T : List (List Int)) (hok : k.ok) (hoL : OkL L) (hoT : ∀ r, r ∈ T → OkI64 r) (hc1 : L.length ≤ c1) (w : World) (hC : (Kd.int .i16).C w A k.hs.length k.hs) (hL : kBk.C w A1 L.length L) (hT : kT.C w A2 T.length T) :
    Calls Try.prog 77 #[k.val A c, .slice A1 L.length c1, .slice A2 T.length c2] w (Ret w (.tuple #[.bool (ctV k L T), .int .i64 (eCL k L)])) := by
  have HT := Aside0.mk hT
  have HOT := Aside0.mk hoT
  clear hT hoT
  have hm := Kd.C_max hC
  have hm1 := Kd.C_max hL
  have HC := Aside0.mk hC
  have HL := Aside0.mk hL
  have HVC := Aside0.mk (fun W h => ValidCase_c k A c W h)
  have HVB := Aside0.mk (fun W h => ValidBooks_c A1 c1 L W h)
  have HB := Aside0.mk (balloc (Below.refl w.heap.size w) (.cells #[.int .i16 k.wd, .int .i32 k.ld, .slice A k.hs.length c] 51))
  have HX := Aside0.mk (CsAt.box w k A c 51)
  clear hC hL
  simp only [Cs.val] at HVC ⊢
  cases v1 : vCase k
  · rw [v1] at HVC
    have HE := Aside0.mk (ct_bad T (eCL_1 (L := L) v1))
    clear v1
    obtain ⟨y0, y1, y2⟩ := HX.out
    go_enter Try.func77, Try.ntmps77
    go_wp2_with fail
    refine (HVC.out _ (Kd.C_alloc HC.out _)).mono ?_; rintro _ w1 ⟨rfl, hb1⟩
    have HB1 := Aside0.mk (bstep HB.out hb1)
    have HX1 := Aside0.mk (HX.out.below hb1)
    clear hb1 y0 y1 y2
    obtain ⟨y0, y1, y2⟩ := HX1.out
    go_wp2_with fail
    go_ret2
    exact ⟨ret_bi HE.out.1.symm HE.out.2.symm, HB1.out⟩
  · rw [v1] at HVC
    cases v2 : vBooks L
    · rw [v2] at HVB
      have HE := Aside0.mk (ct_bad T (eCL_2 (k := k) v2))
      clear v1 v2
      obtain ⟨y0, y1, y2⟩ := HX.out
      go_enter Try.func77, Try.ntmps77
      go_wp2_with fail
      refine (HVC.out _ (Kd.C_alloc HC.out _)).mono ?_; rintro _ w1 ⟨rfl, hb1⟩
      have HB1 := Aside0.mk (bstep HB.out hb1)
      have HX1 := Aside0.mk (HX.out.below hb1)
      clear hb1 y0 y1 y2
      obtain ⟨y0, y1, y2⟩ := HX1.out
      go_wp2_with fail
      refine (HVB.out _ (Kd.C_below HL.out HB1.out)).mono ?_; rintro _ w2 ⟨rfl, hb2⟩
      have HB2 := Aside0.mk (bstep HB1.out hb2)
      have HX2 := Aside0.mk (HX1.out.below hb2)
      clear hb2 y0 y1 y2
      obtain ⟨y0, y1, y2⟩ := HX2.out
      go_wp2_with fail
      go_ret2
      exact ⟨ret_bi HE.out.1.symm HE.out.2.symm, HB2.out⟩
    · rw [v2] at HVB
      have HV0 := Aside0.mk (eCL_0 v1 v2)
      have HFO := Aside0.mk (FitOk.of v2)
      have HVK := Aside0.mk (vCase_bd v1)
      clear v1 v2
      have HP := Aside0.mk (fun W h1 h2 h3 => isProof_c k A c A1 c1 L A2 c2 T hok hoL HVK.out HFO.out HOT.out hc1 W h1 h2 h3)
      have HR := Aside0.mk (ct_ok T HV0.out)
      simp only [Cs.val] at HP
      obtain ⟨y0, y1, y2⟩ := HX.out
      go_enter Try.func77, Try.ntmps77
      go_wp2_with fail
      refine (HVC.out _ (Kd.C_alloc HC.out _)).mono ?_; rintro _ w1 ⟨rfl, hb1⟩
      have HB1 := Aside0.mk (bstep HB.out hb1)
      have HX1 := Aside0.mk (HX.out.below hb1)
      clear hb1 y0 y1 y2
      obtain ⟨y0, y1, y2⟩ := HX1.out
      go_wp2_with fail
      refine (HVB.out _ (Kd.C_below HL.out HB1.out)).mono ?_; rintro _ w2 ⟨rfl, hb2⟩
      have HB2 := Aside0.mk (bstep HB1.out hb2)
      have HX2 := Aside0.mk (HX1.out.below hb2)
      clear hb2 y0 y1 y2
      obtain ⟨y0, y1, y2⟩ := HX2.out
      go_wp2_with fail
      refine (HP.out _ (Kd.C_below HC.out HB2.out) (Kd.C_below HL.out HB2.out) (Kd.C_below HT.out HB2.out)).mono ?_; rintro _ w3 ⟨rfl, hb3⟩
      have HB3 := Aside0.mk (bstep HB2.out hb3)
      clear hb3 y0 y1 y2
      go_wp2_with fail
      go_ret2
      exact ⟨ret_bi HR.out.symm HV0.out.symm, HB3.out⟩
set_option maxHeartbeats 4000000 in
theorem specCheckTable_c (k : Cs) (A : Option Addr) (c : Nat) (A1 : Option Addr) (c1 : Nat) (L : List Bk) (A2 : Option Addr) (c2 : Nat) (T : List (List Int)) (hok : k.ok) (hoL : OkL L) (hoT : ∀ r, r ∈ T → OkI64 r) (hc1 : L.length ≤ c1) (w : World) (hC : (Kd.int .i16).C w A k.hs.length k.hs) (hL : kBk.C w A1 L.length L) (hT : kT.C w A2 T.length T) :
    Calls Try.prog 75 #[k.val A c, .slice A1 L.length c1, .slice A2 T.length c2] w (Ret w (.tuple #[.bool (ctV k L T), .int .i64 (eCL k L)])) := by
  have hm := Kd.C_max hC
  have hm1 := Kd.C_max hL
  have HA := Aside0.mk (box_asked k A c A1 c1 L hok hoL w hC hL)
  have HC := Aside0.mk hC
  have HL := Aside0.mk hL
  have HT := Aside0.mk hT
  have HOT := Aside0.mk hoT
  have HB := Aside0.mk (balloc (Below.refl w.heap.size w) (.cells #[.int .i16 k.wd, .int .i32 k.ld, .slice A k.hs.length c] 51))
  have HX := Aside0.mk (CsAt.box w k A c 51)
  clear hC hL hT hoT
  simp only [Cs.val]
  rcases eCL_split k L with ⟨hv, v1, v2⟩ | hv
  · have HR := Aside0.mk (ct_ok T hv)
    have HP := Aside0.mk (fun p W h0 h1 h2 h3 => l02Proof_c k A c p A1 c1 L A2 c2 T hok (vCase_bd v1) (FitOk.of v2) HOT.out hc1 W h0 h1 h2 h3)
    have HV0 := Aside0.mk hv
    rw [hv] at HA
    clear hv v1 v2
    go_enter Try.func75, Try.ntmps75
    go_wp2_with fail
    refine HA.out.mono ?_; rintro _ w1 ⟨rfl, hb1⟩
    have HB1 := Aside0.mk (bstep HB.out hb1)
    have HX1 := Aside0.mk (HX.out.below hb1)
    clear hb1
    go_wp2_with fail
    refine (HP.out _ _ HX1.out (Kd.C_below HC.out HB1.out) (Kd.C_below HL.out HB1.out) (Kd.C_below HT.out HB1.out)).mono ?_; rintro _ w3 ⟨rfl, hb3⟩
    have HB3 := Aside0.mk (bstep HB1.out hb3)
    clear hb3
    go_wp2_with fail
    go_ret2
    exact ⟨ret_bi HR.out.symm HV0.out.symm, HB3.out⟩
  · have HE := Aside0.mk (ct_bad T hv)
    rw [hv] at HA
    clear hv
    go_enter Try.func75, Try.ntmps75
    go_wp2_with fail
    refine HA.out.mono ?_; rintro _ w1 ⟨rfl, hb1⟩
    have HB1 := Aside0.mk (bstep HB.out hb1)
    have HX1 := Aside0.mk (HX.out.below hb1)
    clear hb1
    go_wp2_with fail
    go_ret2
    exact ⟨ret_bi HE.out.1.symm HE.out.2.symm, HB1.out⟩
set_option maxHeartbeats 4000000 in
theorem ProvedCost_c (k : Cs) (A : Option Addr) (c : Nat) (A1 : Option Addr) (c1 : Nat) (L : List Bk) (A2 : Option Addr) (c2 : Nat) (T : List (List Int)) (hok : k.ok) (hoL : OkL L) (hoT : ∀ r, r ∈ T → OkI64 r) (hc1 : L.length ≤ c1) (w : World) (hC : (Kd.int .i16).C w A k.hs.length k.hs) (hL : kBk.C w A1 L.length L) (hT : kT.C w A2 T.length T) :
    Calls Try.prog 82 #[k.val A c, .slice A1 L.length c1, .slice A2 T.length c2] w (Ret w (.tuple #[.int .i64 (pcV k L T), .int .i64 (pcE k L T)])) := by
  have hmT := Kd.C_max hT
  have HT := Aside0.mk hT
  have HOT := Aside0.mk hoT
  clear hT hoT
  have hm := Kd.C_max hC
  have hm1 := Kd.C_max hL
  have HC := Aside0.mk hC
  have HL := Aside0.mk hL
  have HVC := Aside0.mk (fun W h => ValidCase_c k A c W h)
  have HVB := Aside0.mk (fun W h => ValidBooks_c A1 c1 L W h)
  have HB := Aside0.mk (balloc (Below.refl w.heap.size w) (.cells #[.int .i16 k.wd, .int .i32 k.ld, .slice A k.hs.length c] 51))
  have HX := Aside0.mk (CsAt.box w k A c 51)
  clear hC hL
  simp only [Cs.val] at HVC ⊢
  cases v1 : vCase k
  · rw [v1] at HVC
    have HE := Aside0.mk (pc_bad T (eCL_1 (L := L) v1))
    clear v1
    obtain ⟨y0, y1, y2⟩ := HX.out
    go_enter Try.func82, Try.ntmps82
    go_wp2_with fail
    refine (HVC.out _ (Kd.C_alloc HC.out _)).mono ?_; rintro _ w1 ⟨rfl, hb1⟩
    have HB1 := Aside0.mk (bstep HB.out hb1)
    have HX1 := Aside0.mk (HX.out.below hb1)
    clear hb1 y0 y1 y2
    obtain ⟨y0, y1, y2⟩ := HX1.out
    go_wp2_with fail
    go_ret2
    exact ⟨ret_two HE.out.1.symm HE.out.2.symm, HB1.out⟩
  · rw [v1] at HVC
    cases v2 : vBooks L
    · rw [v2] at HVB
      have HE := Aside0.mk (pc_bad T (eCL_2 (k := k) v2))
      clear v1 v2
      obtain ⟨y0, y1, y2⟩ := HX.out
      go_enter Try.func82, Try.ntmps82
      go_wp2_with fail
      refine (HVC.out _ (Kd.C_alloc HC.out _)).mono ?_; rintro _ w1 ⟨rfl, hb1⟩
      have HB1 := Aside0.mk (bstep HB.out hb1)
      have HX1 := Aside0.mk (HX.out.below hb1)
      clear hb1 y0 y1 y2
      obtain ⟨y0, y1, y2⟩ := HX1.out
      go_wp2_with fail
      refine (HVB.out _ (Kd.C_below HL.out HB1.out)).mono ?_; rintro _ w2 ⟨rfl, hb2⟩
      have HB2 := Aside0.mk (bstep HB1.out hb2)
      have HX2 := Aside0.mk (HX1.out.below hb2)
      clear hb2 y0 y1 y2
      obtain ⟨y0, y1, y2⟩ := HX2.out
      go_wp2_with fail
      go_ret2
      exact ⟨ret_two HE.out.1.symm HE.out.2.symm, HB2.out⟩
    · rw [v2] at HVB
      have HV0 := Aside0.mk (eCL_0 v1 v2)
      have HFO := Aside0.mk (FitOk.of v2)
      have HVK := Aside0.mk (vCase_bd v1)
      clear v1 v2
      have HP := Aside0.mk (fun W h1 h2 h3 => isProof_c k A c A1 c1 L A2 c2 T hok hoL HVK.out HFO.out HOT.out hc1 W h1 h2 h3)
      simp only [Cs.val] at HP
      cases hp : prf k L T
      · have HR := Aside0.mk (pc_no HV0.out hp)
        rw [hp] at HP
        clear hp
        obtain ⟨y0, y1, y2⟩ := HX.out
        go_enter Try.func82, Try.ntmps82
        go_wp2_with fail
        refine (HVC.out _ (Kd.C_alloc HC.out _)).mono ?_; rintro _ w1 ⟨rfl, hb1⟩
        have HB1 := Aside0.mk (bstep HB.out hb1)
        have HX1 := Aside0.mk (HX.out.below hb1)
        clear hb1 y0 y1 y2
        obtain ⟨y0, y1, y2⟩ := HX1.out
        go_wp2_with fail
        refine (HVB.out _ (Kd.C_below HL.out HB1.out)).mono ?_; rintro _ w2 ⟨rfl, hb2⟩
        have HB2 := Aside0.mk (bstep HB1.out hb2)
        have HX2 := Aside0.mk (HX1.out.below hb2)
        clear hb2 y0 y1 y2
        obtain ⟨y0, y1, y2⟩ := HX2.out
        go_wp2_with fail
        refine (HP.out _ (Kd.C_below HC.out HB2.out) (Kd.C_below HL.out HB2.out) (Kd.C_below HT.out HB2.out)).mono ?_; rintro _ w3 ⟨rfl, hb3⟩
        have HB3 := Aside0.mk (bstep HB2.out hb3)
        clear hb3 y0 y1 y2
        go_wp2_with fail
        go_ret2
        exact ⟨ret_two HR.out.1.symm HR.out.2.symm, HB3.out⟩
      · have HPP := Aside0.mk (prf_P hp)
        have HN := Aside0.mk (fun h => pc_none HV0.out hp h)
        have HY := Aside0.mk (fun h => pc_ok HV0.out hp h)
        rw [hp] at HP
        clear hp
        obtain ⟨y0, y1, y2⟩ := HX.out
        go_enter Try.func82, Try.ntmps82
        go_wp2_with fail
        refine (HVC.out _ (Kd.C_alloc HC.out _)).mono ?_; rintro _ w1 ⟨rfl, hb1⟩
        have HB1 := Aside0.mk (bstep HB.out hb1)
        have HX1 := Aside0.mk (HX.out.below hb1)
        clear hb1 y0 y1 y2
        obtain ⟨y0, y1, y2⟩ := HX1.out
        go_wp2_with fail
        refine (HVB.out _ (Kd.C_below HL.out HB1.out)).mono ?_; rintro _ w2 ⟨rfl, hb2⟩
        have HB2 := Aside0.mk (bstep HB1.out hb2)
        have HX2 := Aside0.mk (HX1.out.below hb2)
        clear hb2 y0 y1 y2
        obtain ⟨y0, y1, y2⟩ := HX2.out
        go_wp2_with fail
        refine (HP.out _ (Kd.C_below HC.out HB2.out) (Kd.C_below HL.out HB2.out) (Kd.C_below HT.out HB2.out)).mono ?_; rintro _ w3 ⟨rfl, hb3⟩
        have HB3 := Aside0.mk (bstep HB2.out hb3)
        clear hb3 y0 y1 y2
        have htl : 0 < T.length := by have := HPP.out.len; omega
        obtain ⟨ad, r, A', c', rfl, hbr, hxr, hc', hCr⟩ := at_row (Kd.C_below HT.out HB3.out) 0 htl
        obtain ⟨a1, x, rfl, hbx, hxx⟩ := at_int' hCr.out 0 (by have := HPP.out.rows r (mem_of hbr.out); omega)
        rw [tb_at hbr.out hbx.out] at HN HY
        have i0 : (0 : Int) < (T.length : Int) := by omega
        have i1 : (0 : Int) < (r.length : Int) := by have := HPP.out.rows r (mem_of hbr.out); omega
        have ad0 : ∀ q : Addr, q.add 0 = q := fun q => by cases q; simp [Addr.add]
        rw [ad0] at hxr hxx
        clear hCr ad0
        by_cases hx : x = -1
        · have hb0 : (x == -1) = true := by simp [hx]
          have HE := Aside0.mk (HN.out hx)
          clear hx
          go_wp2_with fail
          go_ret2
          exact ⟨ret_two HE.out.1.symm HE.out.2.symm, HB3.out⟩
        · have hb0 : (x == -1) = false := by simpa using hx
          have HE := Aside0.mk (HY.out hx)
          clear hx
          go_wp2_with fail
          go_ret2
          exact ⟨ret_two HE.out.1.symm HE.out.2.symm, HB3.out⟩
set_option maxHeartbeats 4000000 in
theorem specProvedCost_c (k : Cs) (A : Option Addr) (c : Nat) (A1 : Option Addr) (c1 : Nat) (L : List Bk) (A2 : Option Addr) (c2 : Nat) (T : List (List Int)) (hok : k.ok) (hoL : OkL L) (hoT : ∀ r, r ∈ T → OkI64 r) (hc1 : L.length ≤ c1) (w : World) (hC : (Kd.int .i16).C w A k.hs.length k.hs) (hL : kBk.C w A1 L.length L) (hT : kT.C w A2 T.length T) :
    Calls Try.prog 81 #[k.val A c, .slice A1 L.length c1, .slice A2 T.length c2] w (Ret w (.tuple #[.int .i64 (pcV k L T), .int .i64 (pcE k L T)])) := by
  have hmT := Kd.C_max hT
  have hm := Kd.C_max hC
  have hm1 := Kd.C_max hL
  have HA := Aside0.mk (box_asked k A c A1 c1 L hok hoL w hC hL)
  have HC := Aside0.mk hC
  have HL := Aside0.mk hL
  have HT := Aside0.mk hT
  have HOT := Aside0.mk hoT
  have HB := Aside0.mk (balloc (Below.refl w.heap.size w) (.cells #[.int .i16 k.wd, .int .i32 k.ld, .slice A k.hs.length c] 51))
  have HX := Aside0.mk (CsAt.box w k A c 51)
  clear hC hL hT hoT
  simp only [Cs.val]
  rcases eCL_split k L with ⟨hv, v1, v2⟩ | hv
  · have HP := Aside0.mk (fun p W h0 h1 h2 h3 => l02Proof_c k A c p A1 c1 L A2 c2 T hok (vCase_bd v1) (FitOk.of v2) HOT.out hc1 W h0 h1 h2 h3)
    have HV0 := Aside0.mk hv
    rw [hv] at HA
    clear hv v1 v2
    cases hp : prf k L T
    · have HR := Aside0.mk (pc_no HV0.out hp)
      rw [hp] at HP
      clear hp
      go_enter Try.func81, Try.ntmps81
      go_wp2_with fail
      refine HA.out.mono ?_; rintro _ w1 ⟨rfl, hb1⟩
      have HB1 := Aside0.mk (bstep HB.out hb1)
      have HX1 := Aside0.mk (HX.out.below hb1)
      clear hb1
      go_wp2_with fail
      refine (HP.out _ _ HX1.out (Kd.C_below HC.out HB1.out) (Kd.C_below HL.out HB1.out) (Kd.C_below HT.out HB1.out)).mono ?_; rintro _ w3 ⟨rfl, hb3⟩
      have HB3 := Aside0.mk (bstep HB1.out hb3)
      clear hb3
      go_wp2_with fail
      go_ret2
      exact ⟨ret_two HR.out.1.symm HR.out.2.symm, HB3.out⟩
    · have HPP := Aside0.mk (prf_P hp)
      have HN := Aside0.mk (fun h => pc_none HV0.out hp h)
      have HY := Aside0.mk (fun h => pc_ok HV0.out hp h)
      rw [hp] at HP
      clear hp
      go_enter Try.func81, Try.ntmps81
      go_wp2_with fail
      refine HA.out.mono ?_; rintro _ w1 ⟨rfl, hb1⟩
      have HB1 := Aside0.mk (bstep HB.out hb1)
      have HX1 := Aside0.mk (HX.out.below hb1)
      clear hb1
      go_wp2_with fail
      refine (HP.out _ _ HX1.out (Kd.C_below HC.out HB1.out) (Kd.C_below HL.out HB1.out) (Kd.C_below HT.out HB1.out)).mono ?_; rintro _ w3 ⟨rfl, hb3⟩
      have HB3 := Aside0.mk (bstep HB1.out hb3)
      clear hb3
      have htl : 0 < T.length := by have := HPP.out.len; omega
      obtain ⟨ad, r, A', c', rfl, hbr, hxr, hc', hCr⟩ := at_row (Kd.C_below HT.out HB3.out) 0 htl
      obtain ⟨a1, x, rfl, hbx, hxx⟩ := at_int' hCr.out 0 (by have := HPP.out.rows r (mem_of hbr.out); omega)
      rw [tb_at hbr.out hbx.out] at HN HY
      have i0 : (0 : Int) < (T.length : Int) := by omega
      have i1 : (0 : Int) < (r.length : Int) := by have := HPP.out.rows r (mem_of hbr.out); omega
      have ad0 : ∀ q : Addr, q.add 0 = q := fun q => by cases q; simp [Addr.add]
      rw [ad0] at hxr hxx
      clear hCr ad0
      by_cases hx : x = -1
      · have hb0 : x < 0 := by omega
        have HE := Aside0.mk (HN.out hx)
        clear hx
        go_wp2_with fail
        go_ret2
        exact ⟨ret_two HE.out.1.symm HE.out.2.symm, HB3.out⟩
      · have hb0 : ¬ x < 0 := by have := HPP.out.low r (mem_of hbr.out) x (mem_of hbx.out); omega
        have HE := Aside0.mk (HY.out hx)
        clear hx
        go_wp2_with fail
        go_ret2
        exact ⟨ret_two HE.out.1.symm HE.out.2.symm, HB3.out⟩
  · have HE := Aside0.mk (pc_bad T hv)
    rw [hv] at HA
    clear hv
    go_enter Try.func81, Try.ntmps81
    go_wp2_with fail
    refine HA.out.mono ?_; rintro _ w1 ⟨rfl, hb1⟩
    have HB1 := Aside0.mk (bstep HB.out hb1)
    have HX1 := Aside0.mk (HX.out.below hb1)
    clear hb1
    go_wp2_with fail
    go_ret2
    exact ⟨ret_two HE.out.1.symm HE.out.2.symm, HB1.out⟩
end Go.Proofs.Ytdippdkneeocfaa
