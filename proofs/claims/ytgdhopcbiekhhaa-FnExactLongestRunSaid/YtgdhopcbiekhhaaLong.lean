/- LongestRun: the program's and the reference's. -/
import Derived.Test.YtgdhopcbiekhhaaRunsV
import Derived.StillTailTactics
import Derived.Still
import Derived.Deep.QuietTactic
import Derived.BigQuiet
namespace Go.Proofs.Ytgdhopcbiekhhaa
open Go.RowKit Go.Proofs.YtgdhopcbiekhhaaW.PrintWords Go.Proofs.YtgdhopcbiekhhaaW.PrintMore
set_option linter.unusedVariables false
set_option linter.unusedSimpArgs false
set_option maxRecDepth 100000

def longF (L : List Bk) : Int := if vBooks L = true ∧ L.length ≠ 0 then (longest L).1 else 0
def longM (L : List Bk) : Int := if vBooks L = true ∧ L.length ≠ 0 then (longest L).2 else 0
def longE (L : List Bk) : Int := if vBooks L = true then (if L.length = 0 then 6 else 0) else 1
theorem long_bad {L : List Bk} (h : vBooks L = false) : longF L = 0 ∧ longM L = 0 ∧ longE L = 1 := by
  unfold longF longM longE; rw [h]; simp
theorem long_none {L : List Bk} (h : vBooks L = true) (h0 : L.length = 0) : longF L = 0 ∧ longM L = 0 ∧ longE L = 6 := by
  unfold longF longM longE; rw [h]; simp [h0]
theorem long_some {L : List Bk} (h : vBooks L = true) (h0 : L.length ≠ 0) : longF L = (longest L).1 ∧ longM L = (longest L).2 ∧ longE L = 0 := by
  unfold longF longM longE; rw [h]; simp [h0]
theorem own_bound {L : List Bk} (h : L.length ≤ 60) : ∀ x ∈ runsL L ++ [(L.length : Int)], 0 ≤ x ∧ x ≤ 60 := by
  intro x hx
  rcases List.mem_append.1 hx with hx | hx
  · have := runsN_mem hx; omega
  · rw [List.mem_singleton.1 hx]; omega
theorem wrap_sub {a b : Int} (ha : 0 ≤ a ∧ a ≤ 60) (hb : 0 ≤ b ∧ b ≤ 60) : IntKind.i64.wrap (b - a) = b - a := by
  simp only [IntKind.wrap, IntKind.bits, IntKind.signed, Bool.true_and, decide_eq_true_eq, ge_iff_le]; split <;> omega
theorem wrap_small {a : Int} (h : -1000000000 ≤ a ∧ a ≤ 1000000000) : IntKind.i64.wrap a = a := by
  simp only [IntKind.wrap, IntKind.bits, IntKind.signed, Bool.true_and, decide_eq_true_eq, ge_iff_le]; split <;> omega
theorem add_succ (ad : Addr) (k : Nat) : ad.add (k + 1) = ⟨ad.block, ad.off + (k + 1), none⟩ := by simp [Addr.add]
set_option maxHeartbeats 4000000 in
theorem LongestRun_c (A : Option Addr) (c : Nat) (L : List Bk) (w : World) (hL : kBk.C w A L.length L) : Calls Try.prog 66 #[.slice A L.length c] w (Ret w (.tuple #[.int .i64 (longF L), .int .i64 (longM L), .int .i64 (longE L)])) := by
  have HL := Aside0.mk hL
  have HV := Aside0.mk (ValidBooks_c A c L w hL)
  have hm := Kd.C_max hL
  clear hL
  cases h : vBooks L
  · rw [h] at HV
    have HE := Aside0.mk (long_bad h)
    clear h
    go_enter Try.func66, Try.ntmps66
    go_wp2_with fail
    refine HV.out.mono ?_; rintro _ w1 ⟨rfl, hb1⟩
    go_wp2_with fail
    go_ret3
    exact ⟨ret_three HE.out.1.symm HE.out.2.1.symm HE.out.2.2.symm, hb1⟩
  · rw [h] at HV
    have HN := Aside0.mk (vBooks_len h)
    by_cases h0 : L.length = 0
    · have HE := Aside0.mk (long_none h h0)
      have hq : ((L.length : Int) == 0) = true := by simp [h0]
      clear h h0
      go_enter Try.func66, Try.ntmps66
      go_wp2_with fail
      refine HV.out.mono ?_; rintro _ w1 ⟨rfl, hb1⟩
      go_wp2_with fail
      go_ret3
      exact ⟨ret_three HE.out.1.symm HE.out.2.1.symm HE.out.2.2.symm, hb1⟩
    · have HE := Aside0.mk (long_some h h0)
      have hq : ((L.length : Int) == 0) = false := by simpa using h0
      have HOB := Aside0.mk (own_bound (vBooks_len h))
      have HRL := Aside0.mk (runsN_len L L.length)
      clear h h0
      go_enter Try.func66, Try.ntmps66
      go_wp2_with fail
      refine HV.out.mono ?_; rintro _ w1 ⟨rfl, hb1⟩
      have HB1 := Aside0.mk hb1
      go_wp2_with fail
      refine (runs_c A c L w1 (Kd.C_below HL.out hb1) HN.out).mono ?_; rintro _ w2 ⟨v, rfl, hb2, hv⟩
      have HB2 := Aside0.mk (bstep hb1 hb2)
      have HR2 := Aside0.mk (show NewI w (runsL L) v w2 from Kd.R_lower hv hb1.size)
      clear hb1 hb2 hv
      go_wp2_with (at_builtin; refine i64_append (w := w) rfl (.tmp 19) (.tmp 22) rfl _ (runsL L) (L.length : Int) rfl rfl HR2.out HB2.out (by have := HRL.out; have := HN.out; unfold runsL; omega) ?_; intro v1 w3 hR1 hB1 _; have HR3 := Aside0.mk hR1; have HB3 := Aside0.mk hB1; clear hR1 hB1)
      obtain ⟨O, hO⟩ : ∃ O, runsL L ++ [(L.length : Int)] = O := ⟨_, rfl⟩
      obtain ⟨m, hml⟩ : ∃ m, (runsL L).length = m := ⟨_, rfl⟩
      have HOl := Aside0.mk (show O.length = m + 1 by rw [← hO, ← hml]; simp)
      have HLO := Aside0.mk (show longest L = gapN O m by unfold longest; rw [hO, hml])
      rw [hO] at HR3 HOB
      have hnew := (show NewI w O v1 w3 from HR3.out).open
      obtain ⟨X, d, rfl, ld, CX⟩ := hnew
      have HM := Aside0.mk (show m ≤ 60 by have := HRL.out; have := HN.out; rw [← hml]; unfold runsL; omega)
      clear hO hml HR3 HR2 HV HL HB1 HB2 HRL hq ld
      have hOl : O.length = m + 1 := HOl.out
      rw [hOl] at CX ⊢
      clear hOl
      go_loopg [6, 7, 8] m (fun gk v6 v7 v8 wr => ∃ k : Nat, k + gk = m ∧ v6 = .int .i64 (gapN O k).1 ∧ v7 = .int .i64 (gapN O k).2 ∧ v8 = .int .i64 ((k : Int) + 1) ∧ Aside0 (Below w3.heap.size w3 wr))
      case atStart => exact ⟨0, by omega, rfl, rfl, rfl, ⟨Below.refl _ _⟩⟩
      case round =>
        obtain ⟨k, hk, rfl, rfl, rfl, HB⟩ := hrel
        have HK := Aside0.mk hk
        have hG := gapN_bound HOB.out (by decide) k
        by_cases hlt : k < m
        · have hCX := Kd.C_below CX.out HB.out
          obtain ⟨ad, a, rfl, ha, hca⟩ := at_int' hCX k (by omega)
          obtain ⟨ad', b, e', hb, hcb⟩ := at_int' hCX (k + 1) (by omega)
          injection e' with e'
          subst e'
          rw [add_succ] at hcb
          have HN2 := Aside0.mk (gapN_next ha.out hb.out)
          have ba := HOB.out a (mem_of ha.out)
          have bb := HOB.out b (mem_of hb.out)
          have q1 := wrap_sub ba bb
          have q2 := wrap_small (a := (k : Int)) (by have := HM.out; omega)
          have j1 : (0 : Int) ≤ (k : Int) := by omega
          have j2 : (k : Int) < (m : Int) := by omega
          have j3 : (k : Int) < (m : Int) + 1 := by omega
          have j4 : (0 : Int) ≤ (k : Int) + 1 := by omega
          have j5 : ((k : Int) + 1).toNat = k + 1 := by omega
          have j6 : (m : Int) ≤ 60 := by have := HM.out; omega
          obtain ⟨p, hp⟩ : ∃ p, gapN O k = p := ⟨_, rfl⟩
          rw [hp] at hG HN2 ⊢
          obtain ⟨f, s⟩ := p
          simp only at hG HN2 ⊢
          obtain ⟨g1, g2, g3, g4⟩ := hG
          clear hk hCX hp ha hb
          by_cases hc : s < b - a
          · rw [if_pos hc] at HN2
            go_wp2_with fail
            go_quiet (fail)
            go_wp2
            go_roundg (gk - 1)
            case measure => have := HK.out; omega
            case rel => exact ⟨k + 1, by have := HK.out; omega, by rw [HN2.out], by rw [HN2.out], by go_num, ⟨bdrewN HB.out _⟩⟩
          · rw [if_neg hc] at HN2
            go_wp2_with fail
            go_quiet (fail)
            go_wp2
            go_roundg (gk - 1)
            case measure => have := HK.out; omega
            case rel => exact ⟨k + 1, by have := HK.out; omega, by rw [HN2.out], by rw [HN2.out], by go_num, ⟨bdrewN HB.out _⟩⟩
        · have HF := Aside0.mk (show longest L = gapN O k by rw [HLO.out, show k = m by omega])
          have j2 : ¬ (k : Int) + 1 < (m : Int) + 1 := by omega
          have j3 : (m : Int) + 1 ≤ (k : Int) + 1 := by omega
          have j4 : (m : Int) ≤ (k : Int) := by omega
          clear hk
          go_wp2
          go_ret3
          exact ⟨ret_three (by rw [HE.out.1, HF.out]) (by rw [HE.out.2.1, HF.out]) HE.out.2.2.symm, bstep HB3.out HB.out⟩
set_option maxHeartbeats 4000000 in
theorem specLongestRun_c (A : Option Addr) (c : Nat) (L : List Bk) (hok : OkL L) (w : World) (hL : kBk.C w A L.length L) : Calls Try.prog 65 #[.slice A L.length c] w (Ret w (.tuple #[.int .i64 (longF L), .int .i64 (longM L), .int .i64 (longE L)])) := by
  have HL := Aside0.mk hL
  have HO := Aside0.mk hok
  have HV := Aside0.mk (l01Ok_c A c L hok w hL)
  have hm := Kd.C_max hL
  clear hL hok
  cases h : vBooks L
  · rw [h] at HV
    have HE := Aside0.mk (long_bad h)
    clear h
    go_enter Try.func65, Try.ntmps65
    go_wp2_with fail
    refine HV.out.mono ?_; rintro _ w1 ⟨rfl, hb1⟩
    go_wp2_with fail
    go_ret3
    exact ⟨ret_three HE.out.1.symm HE.out.2.1.symm HE.out.2.2.symm, hb1⟩
  · rw [h] at HV
    have HN := Aside0.mk (vBooks_len h)
    by_cases h0 : L.length = 0
    · have HE := Aside0.mk (long_none h h0)
      have hq : ((L.length : Int) == 0) = true := by simp [h0]
      clear h h0
      go_enter Try.func65, Try.ntmps65
      go_wp2_with fail
      refine HV.out.mono ?_; rintro _ w1 ⟨rfl, hb1⟩
      go_wp2_with fail
      go_ret3
      exact ⟨ret_three HE.out.1.symm HE.out.2.1.symm HE.out.2.2.symm, hb1⟩
    · have HE := Aside0.mk (long_some h h0)
      have hq : ((L.length : Int) == 0) = false := by simpa using h0
      have HOB := Aside0.mk (own_bound (vBooks_len h))
      have HRL := Aside0.mk (runsN_len L L.length)
      clear h h0
      go_enter Try.func65, Try.ntmps65
      go_wp2_with fail
      refine HV.out.mono ?_; rintro _ w1 ⟨rfl, hb1⟩
      go_wp2_with fail
      refine (l01Runs_c A c L w1 (Kd.C_below HL.out hb1) HO.out HN.out).mono ?_; rintro _ w2 ⟨v, rfl, hb2, hv⟩
      have HB2 := Aside0.mk (bstep hb1 hb2)
      obtain ⟨X, d, rfl, ld, CX⟩ := hv.open
      clear hb1 hb2 hv
      obtain ⟨O, hO⟩ : ∃ O, runsL L ++ [(L.length : Int)] = O := ⟨_, rfl⟩
      obtain ⟨R, hR⟩ : ∃ R, runsL L = R := ⟨_, rfl⟩
      have HLO := Aside0.mk (show longest L = gapN O R.length by unfold longest; rw [hO, hR])
      have HM := Aside0.mk (show R.length ≤ 60 by have := HRL.out; have := HN.out; rw [← hR]; unfold runsL; omega)
      rw [hO] at HOB
      rw [hR] at CX hO ⊢
      have hCm := Kd.C_max CX.out
      have HOO := Aside0.mk hO
      have HN' := Aside0.mk HN.out
      clear hR hO HV HL HRL hq ld
      go_wp2_with fail
      go_loopg [6, 7, 8] R.length (fun gk v6 v7 v8 wr => ∃ k : Nat, k + gk = R.length ∧ v6 = .int .i64 (gapN O k).1 ∧ v7 = .int .i64 (gapN O k).2 ∧ v8 = .int .i64 (k : Int) ∧ Aside0 (Below w2.heap.size w2 wr))
      case atStart => exact ⟨0, by omega, rfl, rfl, rfl, ⟨Below.refl _ _⟩⟩
      case round =>
        obtain ⟨k, hk, rfl, rfl, rfl, HB⟩ := hrel
        have HK := Aside0.mk hk
        have hG := gapN_bound HOB.out (by decide) k
        by_cases hlt : k < R.length
        · have hCX := Kd.C_below CX.out HB.out
          obtain ⟨ad, a, rfl, ha, hca⟩ := at_int' hCX k hlt
          have hOa : O[k]? = some a := by rw [← HOO.out, List.getElem?_append_left hlt]; exact ha.out
          have ba := HOB.out a (mem_of hOa)
          have j1 : (0 : Int) ≤ (k : Int) := by omega
          have j6 : (R.length : Int) ≤ 60 := by have := HM.out; omega
          have j7 : (L.length : Int) ≤ 60 := by have := HN'.out; omega
          have j8 : (0 : Int) ≤ (L.length : Int) := by omega
          obtain ⟨p, hp⟩ : ∃ p, gapN O k = p := ⟨_, rfl⟩
          by_cases hlast : k + 1 < R.length
          · obtain ⟨ad', b, e', hb, hcb⟩ := at_int' hCX (k + 1) hlast
            injection e' with e'
            subst e'
            rw [add_succ] at hcb
            have hOb : O[k + 1]? = some b := by rw [← HOO.out, List.getElem?_append_left hlast]; exact hb.out
            have HN2 := Aside0.mk (gapN_next hOa hOb)
            have bb := HOB.out b (mem_of hOb)
            have j2 : (k : Int) + 1 < (R.length : Int) := by omega
            have j5 : ((k : Int) + 1).toNat = k + 1 := by omega
            rw [hp] at hG HN2 ⊢
            obtain ⟨f, s⟩ := p
            simp only at hG HN2 ⊢
            obtain ⟨g1, g2, g3, g4⟩ := hG
            clear hk hCX hp ha hb hOa hOb
            by_cases hc : s < b - a
            · rw [if_pos hc] at HN2
              go_wp2
              go_roundg (gk - 1)
              case measure => have := HK.out; omega
              case rel => exact ⟨k + 1, by have := HK.out; omega, by rw [HN2.out], by rw [HN2.out], by go_num, HB⟩
            · rw [if_neg hc] at HN2
              go_wp2
              go_roundg (gk - 1)
              case measure => have := HK.out; omega
              case rel => exact ⟨k + 1, by have := HK.out; omega, by rw [HN2.out], by rw [HN2.out], by go_num, HB⟩
          · have hOb : O[k + 1]? = some (L.length : Int) := by rw [← HOO.out, List.getElem?_append_right (by omega), show k + 1 - R.length = 0 by omega]; rfl
            have HN2 := Aside0.mk (gapN_next hOa hOb)
            have j2 : ¬ (k : Int) + 1 < (R.length : Int) := by omega
            rw [hp] at hG HN2 ⊢
            obtain ⟨f, s⟩ := p
            simp only at hG HN2 ⊢
            obtain ⟨g1, g2, g3, g4⟩ := hG
            clear hk hCX hp ha hOa hOb
            by_cases hc : s < (L.length : Int) - a
            · rw [if_pos hc] at HN2
              go_wp2
              go_roundg (gk - 1)
              case measure => have := HK.out; omega
              case rel => exact ⟨k + 1, by have := HK.out; omega, by rw [HN2.out], by rw [HN2.out], by go_num, HB⟩
            · rw [if_neg hc] at HN2
              go_wp2
              go_roundg (gk - 1)
              case measure => have := HK.out; omega
              case rel => exact ⟨k + 1, by have := HK.out; omega, by rw [HN2.out], by rw [HN2.out], by go_num, HB⟩
        · have HF := Aside0.mk (show longest L = gapN O k by rw [HLO.out, show k = R.length by omega])
          have j4 : (R.length : Int) ≤ (k : Int) := by omega
          clear hk
          go_wp2
          go_ret3
          exact ⟨ret_three (by rw [HE.out.1, HF.out]) (by rw [HE.out.2.1, HF.out]) HE.out.2.2.symm, bstep HB2.out HB.out⟩
end Go.Proofs.Ytgdhopcbiekhhaa
