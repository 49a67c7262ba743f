/- Layouts: the first bad shelf; the program's and the reference's. -/
import Derived.Test.YtdippdkneeocfaaLay
import Derived.Test.YtdippdkneeocfaaMem
import Derived.StillTailTactics
import Derived.Still
import Derived.Deep.QuietTactic
import Derived.BigQuiet
namespace Go.Proofs.Ytdippdkneeocfaa
open Go.RowKit Go.Proofs.YtdippdkneeocfaaW.PrintWords Go.Proofs.YtdippdkneeocfaaW.PrintMore
set_option linter.unusedVariables false
set_option linter.unusedSimpArgs false
set_option maxRecDepth 100000

/-- Books from a to before b. -/
def subL (L : List Bk) (a b : Int) : List Bk := (L.take b.toNat).drop a.toNat
theorem subL_sub (L : List Bk) (a b : Int) : (subL L a b).Sublist L := (List.drop_sublist _ _).trans (List.take_sublist _ _)
theorem subL_len {L : List Bk} {a b : Int} (h : b ≤ L.length) : (subL L a b).length = b.toNat - a.toNat := by
  unfold subL
  rw [List.length_drop, List.length_take]
  omega
theorem info_bk' : ∃ i, Try.prog.info? 27 = some i ∧ i.size = 8 := by
  have h : (Try.prog.info? 27).map (fun i => i.size) = some 8 := by kernel_rfl
  cases e : Try.prog.info? 27 with
  | none => rw [e] at h; cases h
  | some i => rw [e] at h; exact ⟨i, rfl, by simpa using h⟩
theorem cut_bk (A : Option Addr) (c : Nat) (L : List Bk) (a b : Int) (h0 : 0 ≤ a) (h1 : a ≤ b) (h2 : b ≤ L.length) (hc : L.length ≤ c) :
    ∃ (A' : Option Addr) (c' : Nat), (∀ W : World, (Instr.slice 33 (.slice A L.length c) (some (.int .i64 a)) (some (.int .i64 b)) none).run Try.prog W = .ok (.slice A' (subL L a b).length c') W) ∧ (subL L a b).length ≤ c' ∧ ∀ W : World, kBk.C W A L.length L → kBk.C W A' (subL L a b).length (subL L a b) := by
  obtain ⟨i, hi, hs⟩ := info_bk'
  have hl := subL_len (L := L) (a := a) (b := b) h2
  refine ⟨if c = a.toNat then A else A.map (·.add (a.toNat * 8)), c - a.toNat, fun W => ?_, by rw [hl]; omega, fun W h => ?_⟩
  · rw [hl]
    exact cut_mid 33 27 .i64 .i64 Try.underlying33 hi 8 hs A L.length c a b h0 h1 h2 hc W
  · exact Kd.C_mid (c := c) h (by omega) (by omega) hc
/-- The first bad shelf from s on, with books from a on. -/
def badGo (k : Cs) (L : List Bk) (E : List Int) : Nat → Nat → Int → Int
  | 0, _, a => if a = (L.length : Int) ∧ E.length ≤ k.hs.length then -1 else (k.hs.length : Int)
  | g + 1, s, a => if s < E.length ∧ (a ≤ E.getD s 0 ∧ E.getD s 0 ≤ L.length) ∧ fitL k s (subL L a (E.getD s 0)) = true then badGo k L E g (s + 1) (E.getD s 0) else (s : Int)
def badL (k : Cs) (L : List Bk) (E : List Int) : Int := badGo k L E k.hs.length 0 0
theorem badGo_no {k : Cs} {L : List Bk} {E : List Int} {s : Nat} {a : Int} (hs : s < k.hs.length) (h : ¬ (s < E.length ∧ (a ≤ E.getD s 0 ∧ E.getD s 0 ≤ L.length) ∧ fitL k s (subL L a (E.getD s 0)) = true)) : badGo k L E (k.hs.length - s) s a = (s : Int) := by
  obtain ⟨g, hg⟩ : ∃ g, k.hs.length - s = g + 1 := ⟨k.hs.length - s - 1, by omega⟩
  rw [hg, badGo, if_neg h]
theorem badGo_yes {k : Cs} {L : List Bk} {E : List Int} {s : Nat} {a e : Int} (hs : s < k.hs.length) (he : E[s]? = some e) (h1 : a ≤ e) (h2 : e ≤ L.length) (h : fitL k s (subL L a e) = true) : badGo k L E (k.hs.length - s) s a = badGo k L E (k.hs.length - (s + 1)) (s + 1) e := by
  obtain ⟨g, hg⟩ : ∃ g, k.hs.length - s = g + 1 := ⟨k.hs.length - s - 1, by omega⟩
  have hl := (List.getElem?_eq_some_iff.1 he).1
  have hd : E.getD s 0 = e := by rw [List.getD_eq_getElem?_getD, he]; rfl
  rw [hg, badGo, hd, if_pos ⟨hl, ⟨h1, h2⟩, h⟩, show k.hs.length - (s + 1) = g by omega]
theorem badGo_end {k : Cs} {L : List Bk} {E : List Int} (s : Nat) (a : Int) (hs : k.hs.length - s = 0) : badGo k L E (k.hs.length - s) s a = if a = (L.length : Int) ∧ E.length ≤ k.hs.length then -1 else (k.hs.length : Int) := by rw [hs, badGo]
theorem getD_of {E : List Int} {s : Nat} {e : Int} (h : E[s]? = some e) : E.getD s 0 = e := by rw [List.getD_eq_getElem?_getD, h]; rfl
set_option maxHeartbeats 4000000 in
theorem firstBad_c (k : Cs) (A : Option Addr) (c : Nat) (A1 : Option Addr) (c1 : Nat) (L : List Bk) (A2 : Option Addr) (c2 : Nat) (E : List Int) (hok : k.ok) (hoL : OkL L) (hl60 : L.length ≤ 60) (hn12 : k.hs.length ≤ 12) (hc1 : L.length ≤ c1) (w : World) (hC : (Kd.int .i16).C w A k.hs.length k.hs) (hL : kBk.C w A1 L.length L) (hE : (Kd.int .i64).C w A2 E.length E) :
    Calls Try.prog 132 #[k.val A c, .slice A1 L.length c1, .slice A2 E.length c2] w (Ret w (.int .i64 (badL k L E))) := by
  have hm := Kd.C_max hC
  have hm1 := Kd.C_max hL
  have hm2 := Kd.C_max hE
  have HC := Aside0.mk hC
  have HL := Aside0.mk hL
  have HE := Aside0.mk hE
  have HOK := Aside0.mk hok
  have HOL := Aside0.mk hoL
  have HB := Aside0.mk (balloc (Below.refl w.heap.size w) (.cells #[.int .i16 k.wd, .int .i32 k.ld, .slice A k.hs.length c] 51))
  have HX := Aside0.mk (CsAt.box w k A c 51)
  have HBAD := Aside0.mk (show badGo k L E (k.hs.length - 0) 0 0 = badL k L E from rfl)
  obtain ⟨y0, y1, y2⟩ := HX.out
  clear hC hL hE hok hoL
  simp only [Cs.val]
  go_enter Try.func132, Try.ntmps132
  go_wp2_with fail
  clear y0 y1 y2
  generalize HW0E : World.alloc w _ = W0 at HB HX ⊢
  clear HW0E
  go_loopg [7, 15] k.hs.length (fun gk v7 v15 wr => ∃ s : Nat, ∃ a : Int, s + gk = k.hs.length ∧ v15 = .int .i64 s ∧ v7 = .int .i64 a ∧ Aside0 (badGo k L E (k.hs.length - s) s a = badL k L E ∧ 0 ≤ a ∧ a ≤ 60) ∧ Aside0 (Below W0.heap.size W0 wr))
  case atStart => exact ⟨0, 0, by omega, rfl, rfl, ⟨HBAD.out, by decide, by decide⟩, ⟨Below.refl _ _⟩⟩
  case round =>
    clear HBAD
    obtain ⟨s, a, hk, rfl, rfl, hp, hb⟩ := hrel
    have HK := Aside0.mk hk
    have HXr := Aside0.mk (HX.out.below hb.out)
    have HBr := Aside0.mk (HB.out.trans (hb.out.mono HB.out.size))
    obtain ⟨y0, y1, y2⟩ := HXr.out
    have yO0 : ∀ p : Over wr, p.W.cell? ⟨w.heap.size, 0, none⟩ = some (.int .i16 k.wd) := Over.cell y0
    have yO1 : ∀ p : Over wr, p.W.cell? ⟨w.heap.size, 1, none⟩ = some (.int .i32 k.ld) := Over.cell y1
    have yO2 : ∀ p : Over wr, p.W.cell? ⟨w.heap.size, 2, none⟩ = some (.slice A k.hs.length c) := Over.cell y2
    obtain ⟨_, a0, a60⟩ := hp.out
    by_cases hlt : s < k.hs.length
    · clear hk
      have i0 : (0 : Int) ≤ (s : Int) := by omega
      by_cases hse : s < E.length
      · obtain ⟨ad, e, rfl, hbe, hxe⟩ := at_int' (Kd.C_below HE.out HBr.out) s hse
        have hxO : ∀ p : Over wr, p.W.cell? (ad.add s) = some (.int .i64 e) := Over.cell hxe
        have HWI := Aside0.mk (fun W => within64_c e a L.length W)
        have d1 : decide ((E.length : Int) ≤ (s : Int)) = false := decide_eq_false (by omega)
        have d1' : decide (E.length ≤ s) = false := decide_eq_false (by omega)
        have i1 : (s : Int) < (E.length : Int) := by omega
        have hw64 : IntKind.i64.wrap (L.length : Int) = (L.length : Int) := by simp only [IntKind.wrap, IntKind.bits, IntKind.signed, Bool.true_and, decide_eq_true_eq, ge_iff_le]; split <;> omega
        cases v1 : inR e a L.length
        · rw [v1] at HWI
          have HR := Aside0.mk (show badL k L E = (s : Int) by
            rw [← hp.out.1]
            refine badGo_no hlt ?_
            rw [getD_of hbe.out]
            rintro ⟨_, h2, _⟩
            rw [inR_iff.2 h2] at v1
            cases v1)
          clear v1
          go_wp2_with fail
          refine region_over (by kernel_rfl) (by kernel_rfl) ?_
          repeat (go_big_quiet_step (first | (go_at_call 129; exact Calls.over_of ((HWI.out _).mono fun e w' h => h.ret))))
          refine wpQuiet_nil ?_
          intro wq1 hw'
          have hq_wq1 := over_out hw'
          clear hw'
          clear yO0 yO1 yO2 hxO
          have HQ := Aside0.mk (HBr.out.trans (hq_wq1.mono HBr.out.size))
          clear hq_wq1
          go_wp2
          go_ret
          exact ⟨ret_int HR.out.symm, HQ.out⟩
        · obtain ⟨e1, e2⟩ := inR_iff.1 v1
          rw [v1] at HWI
          obtain ⟨A', c', hcut, hc', hCC⟩ := cut_bk A1 c1 L a e a0 e1 e2 hc1
          have HCC := Aside0.mk hCC
          have HF := Aside0.mk (fun W h1 h2 => fits_c k A c s A' c' (subL L a e) HOK.out (fun b hb => HOL.out b ((subL_sub L a e).subset hb)) hlt W h1 h2)
          have HY := Aside0.mk (fun h => badGo_yes (k := k) (L := L) (E := E) (a := a) hlt hbe.out e1 e2 h)
          have HNO := Aside0.mk (fun (h : fitL k s (subL L a e) = false) => badGo_no (k := k) (L := L) (E := E) (a := a) hlt (by
            rw [getD_of hbe.out]
            rintro ⟨_, _, h3⟩
            rw [h] at h3; cases h3))
          simp only [Cs.val] at HF
          generalize fitL k s (subL L a e) = ft at HF HY HNO
          generalize subL L a e = M at HF hcut hc' HCC hCC
          clear v1 hCC
          cases ft
          · have HR := Aside0.mk (show badL k L E = (s : Int) by rw [← hp.out.1]; exact HNO.out rfl)
            clear HY HNO
            go_wp2_with fail
            refine region_over (by kernel_rfl) (by kernel_rfl) ?_
            repeat (go_big_quiet_step (first | (go_at_call 129; exact Calls.over_of ((HWI.out _).mono fun e w' h => h.ret)) | (go_at_call 130; exact Calls.over_of (HF.out _ (Kd.C_below HC.out (HBr.out.trans ((Over.h _).mono HBr.out.size))) (HCC.out _ (Kd.C_below HL.out (HBr.out.trans ((Over.h _).mono HBr.out.size))))))))
            refine wpQuiet_nil ?_
            intro wq1 hw'
            have hq_wq1 := over_out hw'
            clear hw'
            clear yO0 yO1 yO2 hxO hcut
            have HQ := Aside0.mk (HBr.out.trans (hq_wq1.mono HBr.out.size))
            clear hq_wq1
            go_wp2
            go_ret
            exact ⟨ret_int HR.out.symm, HQ.out⟩
          · have HR := Aside0.mk (show badGo k L E (k.hs.length - (s + 1)) (s + 1) e = badL k L E by rw [← hp.out.1]; exact (HY.out rfl).symm)
            clear HY HNO
            go_wp2_with fail
            refine region_over (by kernel_rfl) (by kernel_rfl) ?_
            repeat (go_big_quiet_step (first | (go_at_call 129; exact Calls.over_of ((HWI.out _).mono fun e w' h => h.ret)) | (go_at_call 130; exact Calls.over_of (HF.out _ (Kd.C_below HC.out (HBr.out.trans ((Over.h _).mono HBr.out.size))) (HCC.out _ (Kd.C_below HL.out (HBr.out.trans ((Over.h _).mono HBr.out.size))))))))
            refine wpQuiet_nil ?_
            intro wq1 hw'
            have hq_wq1 := over_out hw'
            clear hw'
            clear yO0 yO1 yO2 hxO hcut y0 y1 y2
            have hx1 : wq1.cell? (ad.add s) = some (.int .i64 e) := pw_cell_below hq_wq1 hxe
            have HQ := Aside0.mk (bstep hb.out hq_wq1)
            clear hq_wq1 hxe
            go_wp2
            go_roundg (gk - 1)
            case measure => have := HK.out; omega
            case rel => exact ⟨s + 1, e, by have := HK.out; omega, by go_num, rfl, ⟨HR.out, by omega, by omega⟩, HQ⟩
      · have HR := Aside0.mk (show badL k L E = (s : Int) by
          rw [← hp.out.1]
          exact badGo_no hlt (fun h => hse h.1))
        have d1 : decide ((E.length : Int) ≤ (s : Int)) = true := decide_eq_true (by omega)
        have d1' : decide (E.length ≤ s) = true := decide_eq_true (by omega)
        go_wp2_with fail
        refine region_over (by kernel_rfl) (by kernel_rfl) ?_
        repeat (go_big_quiet_step (fail))
        refine wpQuiet_nil ?_
        intro wq1 hw'
        have hq_wq1 := over_out hw'
        clear hw'
        clear yO0 yO1 yO2
        have HQ := Aside0.mk (HBr.out.trans (hq_wq1.mono HBr.out.size))
        clear hq_wq1
        go_wp2
        go_ret
        exact ⟨ret_int HR.out.symm, HQ.out⟩
    · have HR := Aside0.mk (show badL k L E = if a = (L.length : Int) ∧ E.length ≤ k.hs.length then -1 else (k.hs.length : Int) by
        rw [← hp.out.1]; exact badGo_end s a (by omega))
      clear hk yO0 yO1 yO2
      by_cases ha : a = (L.length : Int)
      · have b1 : (a != (L.length : Int)) = false := by simp [ha]
        by_cases hle : E.length ≤ k.hs.length
        · have HR2 := Aside0.mk (show badL k L E = -1 by rw [HR.out, if_pos ⟨ha, hle⟩])
          clear HR ha
          go_wp2
          go_ret
          exact ⟨ret_int HR2.out.symm, HBr.out⟩
        · have HR2 := Aside0.mk (show badL k L E = (k.hs.length : Int) by rw [HR.out, if_neg (fun h => hle h.2)])
          clear HR ha
          go_wp2
          go_ret
          exact ⟨ret_int HR2.out.symm, HBr.out⟩
      · have b1 : (a != (L.length : Int)) = true := by simp [ha]
        have HR2 := Aside0.mk (show badL k L E = (k.hs.length : Int) by rw [HR.out, if_neg (fun h => ha h.1)])
        clear HR ha
        go_wp2
        go_ret
        exact ⟨ret_int HR2.out.symm, HBr.out⟩
end Go.Proofs.Ytdippdkneeocfaa
