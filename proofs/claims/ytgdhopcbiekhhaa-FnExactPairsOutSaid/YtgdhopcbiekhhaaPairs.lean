/- PairsOut: the program's and the reference's. -/
import Derived.Test.YtgdhopcbiekhhaaRunsV
import Derived.StillTailTactics
import Derived.Still
import Derived.Deep.QuietTactic
import Derived.BigQuiet
namespace Go.Proofs.Ytgdhopcbiekhhaa
open Go.RowKit Go.Proofs.YtgdhopcbiekhhaaW.PrintWords Go.Proofs.YtgdhopcbiekhhaaW.PrintMore
set_option linter.unusedVariables false
set_option linter.unusedSimpArgs false
set_option maxRecDepth 100000

def pairsV (L : List Bk) : Int := if vBooks L = true then pairsL L else 0
theorem pairsN_60 {L : List Bk} {k : Nat} (h : L.length ≤ 60) (hk : k ≤ L.length) : pairsN L k ≤ 3600 := by
  have h1 := pairsN_le L k
  have h2 : L.length * k ≤ 60 * 60 := Nat.mul_le_mul h (by omega)
  omega
set_option maxHeartbeats 4000000 in
theorem specPairsOut_c (A : Option Addr) (c : Nat) (L : List Bk) (hok : OkL L) (w : World) (hL : kBk.C w A L.length L) : Calls Try.prog 51 #[.slice A L.length c] w (Ret w (.tuple #[.int .i64 (pairsV L), .int .i64 (eV L)])) := by
  have HL := Aside0.mk hL
  have HO := Aside0.mk hok
  have HV := Aside0.mk (l01Ok_c A c L hok w hL)
  have hm := Kd.C_max hL
  clear hL hok
  cases h : vBooks L
  · rw [h] at HV
    have HE := Aside0.mk (show pairsV L = 0 ∧ eV L = 1 by unfold pairsV eV; rw [h]; exact ⟨rfl, rfl⟩)
    clear h
    go_enter Try.func51, Try.ntmps51
    go_wp2_with fail
    refine HV.out.mono ?_; rintro _ w1 ⟨rfl, hb1⟩
    go_wp2_with fail
    go_ret2
    exact ⟨ret_two HE.out.1.symm HE.out.2.symm, hb1⟩
  · rw [h] at HV
    have hn := vBooks_len h
    have HE := Aside0.mk (show pairsV L = pairsL L ∧ eV L = 0 by unfold pairsV eV; rw [h]; exact ⟨rfl, rfl⟩)
    clear h
    go_enter Try.func51, Try.ntmps51
    go_wp2_with fail
    refine HV.out.mono ?_; rintro _ w1 ⟨rfl, hb1⟩
    have HB1 := Aside0.mk hb1
    clear hb1 HV
    go_wp2_with fail
    go_loopg [4, 5, 6] L.length (fun gk v4 v5 v6 wr => ∃ k : Nat, k + gk = L.length ∧ v4 = .int .i64 (pairsN L k : Nat) ∧ v5 = .int .i64 (k : Int) ∧ Aside0 (Below w.heap.size w wr))
    case atStart => exact ⟨0, by omega, rfl, rfl, HB1⟩
    case round =>
      obtain ⟨k, hk, rfl, rfl, HB⟩ := hrel
      have HK := Aside0.mk hk
      by_cases hlt : k < L.length
      · obtain ⟨ad, b, rfl, hbk, hx⟩ := at_bk' (Kd.C_below HL.out HB.out) k hlt
        have HX := Aside0.mk hx
        have HP := Aside0.mk (pairsN_next hbk.out)
        have hp60 := pairsN_60 hn (show k ≤ L.length by omega)
        have i1 : (0 : Int) ≤ (k : Int) := by omega
        have i2 : (k : Int) < (L.length : Int) := by omega
        obtain ⟨P, hP⟩ : ∃ P, pairsN L k = P := ⟨_, rfl⟩
        rw [hP] at HP hp60 ⊢
        clear hk hx hP
        obtain ⟨wo, rfl⟩ : ∃ wo : World, wo = wr := ⟨_, rfl⟩
        obtain ⟨gO, rfl⟩ : ∃ g : Nat, g = gk := ⟨_, rfl⟩
        go_wp2_with fail
        go_loopg [4, 6] k (fun gj u4 u6 wq => ∃ j : Nat, j + gj = k ∧ u4 = .int .i64 ((P + lowIn b (L.take j) : Nat) : Int) ∧ u6 = .int .i64 (j : Int) ∧ Aside0 (Below wo.heap.size wo wq))
        case atStart => exact ⟨0, by omega, by simp [lowIn], rfl, ⟨Below.refl _ _⟩⟩
        case round =>
          obtain ⟨j, hj, rfl, rfl, HBj⟩ := hrel
          have HJ := Aside0.mk hj
          by_cases hltj : j < k
          · obtain ⟨ad', b', e', hbk', hy⟩ := at_bk' (Kd.C_below HL.out (bstep HB.out HBj.out)) j (by omega)
            injection e' with e'
            subst e'
            have HU := Aside0.mk (l01Usual_c _ _ b b' (HO.out b (mem_of hbk.out)) (HO.out b' (mem_of hbk'.out)) wr.drew ((HX.out.below HBj.out).below (bdrew (Below.refl _ _))) (hy.below (bdrew (Below.refl _ _))))
            have hlow := lowIn_le b (L.take j)
            have hlt2 : (L.take j).length ≤ j := by rw [List.length_take]; omega
            have HLY := Aside0.mk (fun h => lowIn_yes (b := b) hbk'.out h)
            have HLN := Aside0.mk (fun h => lowIn_no (b := b) hbk'.out h)
            obtain ⟨q, hq⟩ : ∃ q, lowIn b (L.take j) = q := ⟨_, rfl⟩
            rw [hq] at HLY HLN hlow ⊢
            have hq60 : q ≤ 60 := by omega
            have j1 : (0 : Int) ≤ (j : Int) := by omega
            have j2 : (j : Int) < (L.length : Int) := by omega
            have j3 : (j : Int) < (k : Int) := by omega
            have HQ := Aside0.mk hq
            clear hj hy hq hlow hlt2
            go_wp2_with fail
            go_still_tail 6, (by kernel_rfl)
            go_wp2_with fail
            refine HU.out.mono ?_; rintro _ w2 ⟨rfl, hb2⟩
            have HB2 := Aside0.mk (bstep (bdrew HBj.out) hb2)
            clear hb2
            by_cases hc : cmpU b b' < 0
            · have HS := Aside0.mk (HLY.out hc)
              go_wp2
              go_roundg (gk - 1)
              case measure => have := HJ.out; omega
              case rel => exact ⟨j + 1, by have := HJ.out; omega, by rw [HS.out]; go_num, by go_num, HB2⟩
            · have HS := Aside0.mk (HLN.out (by omega))
              go_wp2
              go_roundg (gk - 1)
              case measure => have := HJ.out; omega
              case rel => exact ⟨j + 1, by have := HJ.out; omega, by rw [HS.out]; go_num, by go_num, HB2⟩
          · have hjk : j = k := by omega
            have HS := Aside0.mk (show pairsN L (k + 1) = P + lowIn b (L.take j) by rw [HP.out, hjk])
            have j3 : (k : Int) ≤ (j : Int) := by omega
            clear hj hjk
            go_wp2
            go_roundg (gO - 1)
            case measure => have := HK.out; omega
            case rel => exact ⟨k + 1, by have := HK.out; omega, by rw [HS.out], by go_num, ⟨bstep HB.out HBj.out⟩⟩
      · have HF := Aside0.mk (show pairsL L = (pairsN L k : Nat) by unfold pairsL; rw [show k = L.length by omega])
        have j4 : (L.length : Int) ≤ (k : Int) := by omega
        clear hk
        go_wp2
        go_ret2
        exact ⟨ret_two (by rw [HE.out.1, HF.out]) HE.out.2.symm, HB.out⟩
set_option maxHeartbeats 4000000 in
theorem PairsOut_c (A : Option Addr) (c : Nat) (L : List Bk) (hlc : L.length ≤ c) (w : World) (hL : kBk.C w A L.length L) : Calls Try.prog 52 #[.slice A L.length c] w (Ret w (.tuple #[.int .i64 (pairsV L), .int .i64 (eV L)])) := by
  have HL := Aside0.mk hL
  have HV := Aside0.mk (ValidBooks_c A c L w hL)
  have hm := Kd.C_max hL
  have HC := Aside0.mk (fun x y W => compare_c x y W)
  simp only [Bk.val] at HC
  clear hL
  cases h : vBooks L
  · rw [h] at HV
    have HE := Aside0.mk (show pairsV L = 0 ∧ eV L = 1 by unfold pairsV eV; rw [h]; exact ⟨rfl, rfl⟩)
    clear h
    go_enter Try.func52, Try.ntmps52
    go_wp2_with fail
    refine HV.out.mono ?_; rintro _ w1 ⟨rfl, hb1⟩
    go_wp2_with fail
    go_ret2
    exact ⟨ret_two HE.out.1.symm HE.out.2.symm, hb1⟩
  · rw [h] at HV
    have hn := vBooks_len h
    have HE := Aside0.mk (show pairsV L = pairsL L ∧ eV L = 0 by unfold pairsV eV; rw [h]; exact ⟨rfl, rfl⟩)
    clear h
    go_enter Try.func52, Try.ntmps52
    go_wp2_with fail
    refine HV.out.mono ?_; rintro _ w1 ⟨rfl, hb1⟩
    have HB1 := Aside0.mk hb1
    clear hb1 HV
    go_wp2_with fail
    go_loopg [4, 14] L.length (fun gk v4 v5 wr => ∃ k : Nat, k + gk = L.length ∧ v4 = .int .i64 (pairsN L k : Nat) ∧ v5 = .int .i64 (k : Int) ∧ Aside0 (Below w.heap.size w wr))
    case atStart => exact ⟨0, by omega, rfl, rfl, HB1⟩
    case round =>
      obtain ⟨k, hk, rfl, rfl, HB⟩ := hrel
      have HK := Aside0.mk hk
      by_cases hlt : k < L.length
      · obtain ⟨ad, b, rfl, hbk, x0, x1, x2, x3, x4, x5, x6, x7⟩ := at_bk (Kd.C_below HL.out HB.out) k hlt
        have HP := Aside0.mk (pairsN_next hbk.out)
        have hp60 := pairsN_60 hn (show k ≤ L.length by omega)
        have i1 : (0 : Int) ≤ (k : Int) := by omega
        have i2 : (k : Int) < (L.length : Int) := by omega
        have i3 : k ≤ c := by omega
        have i4 : (k : Int) ≤ (c : Int) := by omega
        obtain ⟨P, hP⟩ : ∃ P, pairsN L k = P := ⟨_, rfl⟩
        rw [hP] at HP hp60 ⊢
        clear hk hP
        obtain ⟨wo, rfl⟩ : ∃ wo : World, wo = wr := ⟨_, rfl⟩
        obtain ⟨gO, rfl⟩ : ∃ g : Nat, g = gk := ⟨_, rfl⟩
        go_wp2_with fail
        have HX := Aside0.mk (BkAt.box wo b 34)
        have HB2 := Aside0.mk (balloc HB.out (.cells #[.int .i16 b.c, .int .u8 b.m0, .int .u8 b.m1, .int .u8 b.m2, .int .i16 b.v, .int .i16 b.wd, .int .i16 b.h, .int .i16 b.wt] 34))
        have HS := Aside0.mk (show (wo.alloc (.cells #[.int .i16 b.c, .int .u8 b.m0, .int .u8 b.m1, .int .u8 b.m2, .int .i16 b.v, .int .i16 b.wd, .int .i16 b.h, .int .i16 b.wt] 34)).heap.size = wo.heap.size + 1 by simp)
        clear x0 x1 x2 x3 x4 x5 x6 x7
        generalize hW1 : World.alloc wo _ = W1 at HX HB2 HS ⊢
        clear hW1
        go_loopg [4, 23] k (fun gk u4 u6 wq => ∃ j : Nat, j + gk = k ∧ u4 = .int .i64 ((P + lowIn b (L.take j) : Nat) : Int) ∧ u6 = .int .i64 (j : Int) ∧ Aside0 (Below W1.heap.size W1 wq))
        case atStart => exact ⟨0, by omega, by simp [lowIn], rfl, ⟨Below.refl _ _⟩⟩
        case round =>
          obtain ⟨j, hj, rfl, rfl, HBj⟩ := hrel
          have HJ := Aside0.mk hj
          by_cases hltj : j < k
          · obtain ⟨ad', b', e', hbk', y0, y1, y2, y3, y4, y5, y6, y7⟩ := at_bk (Kd.C_below HL.out (bstep HB2.out HBj.out)) j (by omega)
            injection e' with e'
            subst e'
            have hlow := lowIn_le b (L.take j)
            have hlt2 : (L.take j).length ≤ j := by rw [List.length_take]; omega
            have HLY := Aside0.mk (fun h => lowIn_yes (b := b) hbk'.out h)
            have HLN := Aside0.mk (fun h => lowIn_no (b := b) hbk'.out h)
            obtain ⟨q, hq⟩ : ∃ q, lowIn b (L.take j) = q := ⟨_, rfl⟩
            rw [hq] at HLY HLN hlow ⊢
            have hq60 : q ≤ 60 := by omega
            have j1 : (0 : Int) ≤ (j : Int) := by omega
            have j2 : (j : Int) < (L.length : Int) := by omega
            have j3 : (j : Int) < (k : Int) := by omega
            have HQ := Aside0.mk hq
            obtain ⟨z0, z1, z2, z3, z4, z5, z6, z7⟩ := (HX.out.below HBj.out)
            have hne : wo.heap.size < wr.heap.size := by have := HBj.out.size; have := HS.out; omega
            clear hj hq hlow hlt2
            go_wp2_with fail
            refine (HC.out b b' _).mono ?_; rintro _ w2 ⟨rfl, hb2⟩
            have HBn := Aside0.mk (bstep (balloc HBj.out (.cells #[.int .i16 b'.c, .int .u8 b'.m0, .int .u8 b'.m1, .int .u8 b'.m2, .int .i16 b'.v, .int .i16 b'.wd, .int .i16 b'.h, .int .i16 b'.wt] 34)) hb2)
            clear hb2 y0 y1 y2 y3 y4 y5 y6 y7 z0 z1 z2 z3 z4 z5 z6 z7
            by_cases hc : cmpU b b' < 0
            · have HS2 := Aside0.mk (HLY.out hc)
              go_wp2
              go_roundg (gk - 1)
              case measure => have := HJ.out; omega
              case rel => exact ⟨j + 1, by have := HJ.out; omega, by rw [HS2.out]; go_num, by go_num, HBn⟩
            · have HS2 := Aside0.mk (HLN.out (by omega))
              go_wp2
              go_roundg (gk - 1)
              case measure => have := HJ.out; omega
              case rel => exact ⟨j + 1, by have := HJ.out; omega, by rw [HS2.out]; go_num, by go_num, HBn⟩
          · have hjk : j = k := by omega
            have HS2 := Aside0.mk (show pairsN L (k + 1) = P + lowIn b (L.take j) by rw [HP.out, hjk])
            have j3 : (k : Int) ≤ (j : Int) := by omega
            clear hj hjk
            go_wp2
            go_roundg (gO - 1)
            case measure => have := HK.out; omega
            case rel => exact ⟨k + 1, by have := HK.out; omega, by rw [HS2.out], by go_num, ⟨bstep HB2.out HBj.out⟩⟩
      · have HF := Aside0.mk (show pairsL L = (pairsN L k : Nat) by unfold pairsL; rw [show k = L.length by omega])
        have j4 : (L.length : Int) ≤ (k : Int) := by omega
        clear hk
        go_wp2
        go_ret2
        exact ⟨ret_two (by rw [HE.out.1, HF.out]) HE.out.2.symm, HB.out⟩
end Go.Proofs.Ytgdhopcbiekhhaa
