/- FirstOut, RunsOf: the program's and the reference's. -/
import Derived.Test.YtgdhopcbiekhhaaRuns
import Derived.StillTailTactics
import Derived.Still
import Derived.Deep.QuietTactic
import Derived.BigQuiet
namespace Go.Proofs.Ytgdhopcbiekhhaa
open Go.RowKit Go.Proofs.YtgdhopcbiekhhaaW.PrintWords Go.Proofs.YtgdhopcbiekhhaaW.PrintMore
set_option linter.unusedVariables false
set_option linter.unusedSimpArgs false
set_option maxRecDepth 100000

theorem vBooks_len {L : List Bk} (h : vBooks L = true) : L.length ≤ 60 := by
  unfold vBooks at h
  simp only [Bool.and_eq_true, decide_eq_true_eq] at h
  exact h.1
theorem ret_two {a b c d : Int} (h : a = c) (k : b = d) : Ending.returned (.tuple #[.int .i64 a, .int .i64 b]) = .returned (.tuple #[.int .i64 c, .int .i64 d]) := by rw [h, k]
theorem ret_three {a b c d e f : Int} (h : a = d) (k : b = e) (l : c = f) : Ending.returned (.tuple #[.int .i64 a, .int .i64 b, .int .i64 c]) = .returned (.tuple #[.int .i64 d, .int .i64 e, .int .i64 f]) := by rw [h, k, l]
def firstV (L : List Bk) : Int := if vBooks L = true then (if outOf L < 0 then 0 else outOf L) else 0
def firstE (L : List Bk) : Int := if vBooks L = true then (if outOf L < 0 then 6 else 0) else 1
theorem FirstOut_c (A : Option Addr) (c : Nat) (L : List Bk) (w : World) (hL : kBk.C w A L.length L) : Calls Try.prog 64 #[.slice A L.length c] w (Ret w (.tuple #[.int .i64 (firstV L), .int .i64 (firstE L)])) := by
  have HL := Aside0.mk hL
  have HV := Aside0.mk (ValidBooks_c A c L w hL)
  clear hL
  cases h : vBooks L
  · rw [h] at HV
    have HE := Aside0.mk (show firstV L = 0 ∧ firstE L = 1 by unfold firstV firstE; rw [h]; exact ⟨rfl, rfl⟩)
    clear h
    go_enter Try.func64, Try.ntmps64
    go_wp2_with fail
    refine HV.out.mono ?_; rintro _ w1 ⟨rfl, hb1⟩
    go_wp2_with fail
    go_ret2
    exact ⟨ret_two HE.out.1.symm HE.out.2.symm, hb1⟩
  · rw [h] at HV
    have HN := Aside0.mk (vBooks_len h)
    have HE := Aside0.mk (show firstV L = (if outOf L < 0 then 0 else outOf L) ∧ firstE L = (if outOf L < 0 then 6 else 0) by unfold firstV firstE; rw [h]; exact ⟨rfl, rfl⟩)
    clear h
    by_cases hf : outOf L < 0
    · have HR := Aside0.mk (runs_few.2 hf)
      have HF := Aside0.mk hf
      clear hf
      go_enter Try.func64, Try.ntmps64
      go_wp2_with fail
      refine HV.out.mono ?_; rintro _ w1 ⟨rfl, hb1⟩
      have HB1 := Aside0.mk hb1
      go_wp2_with fail
      refine (runs_c A c L w1 (Kd.C_below HL.out hb1) HN.out).mono ?_; rintro _ w2 ⟨v, rfl, hb2, hv⟩
      obtain ⟨X, d, rfl, ld, CX⟩ := hv.open
      have HB2 := Aside0.mk (bstep HB1.out hb2)
      have i1 : ((runsL L).length : Int) < 2 := by have := HR.out; omega
      clear hb1 hb2 hv ld
      go_wp2_with fail
      go_ret2
      exact ⟨ret_two (by rw [HE.out.1, if_pos HF.out]) (by rw [HE.out.2, if_pos HF.out]), HB2.out⟩
    · have HR := Aside0.mk (runs_second hf)
      have HF := Aside0.mk hf
      have HR2 := Aside0.mk (show ¬ (runsL L).length < 2 from fun h => hf (runs_few.1 h))
      clear hf
      go_enter Try.func64, Try.ntmps64
      go_wp2_with fail
      refine HV.out.mono ?_; rintro _ w1 ⟨rfl, hb1⟩
      have HB1 := Aside0.mk hb1
      go_wp2_with fail
      refine (runs_c A c L w1 (Kd.C_below HL.out hb1) HN.out).mono ?_; rintro _ w2 ⟨v, rfl, hb2, hv⟩
      obtain ⟨X, d, rfl, ld, CX⟩ := hv.open
      have HB2 := Aside0.mk (bstep HB1.out hb2)
      obtain ⟨ad, x, rfl, hx, hc⟩ := at_int' CX.out 1 (by have := HR2.out; omega)
      have HX := Aside0.mk (show x = outOf L by have h1 := hx.out; rw [HR.out] at h1; injection h1 with h1; exact h1.symm)
      have i1 : ¬ ((runsL L).length : Int) < 2 := by have := HR2.out; omega
      have i2 : (1 : Int) < ((runsL L).length : Int) := by omega
      have i3 : 1 < (runsL L).length := by omega
      have hc2 : w2.cell? ⟨ad.block, ad.off + 1, none⟩ = some (.int .i64 x) := by simpa [Addr.add] using hc
      clear hb1 hb2 hv ld hx hc
      go_wp2_with fail
      go_ret2
      exact ⟨ret_two (by rw [HE.out.1, if_neg (by have := HF.out; omega)]; exact HX.out) (by rw [HE.out.2, if_neg (by have := HF.out; omega)]), HB2.out⟩
theorem specFirstOut_c (A : Option Addr) (c : Nat) (L : List Bk) (hok : OkL L) (w : World) (hL : kBk.C w A L.length L) : Calls Try.prog 63 #[.slice A L.length c] w (Ret w (.tuple #[.int .i64 (firstV L), .int .i64 (firstE L)])) := by
  have HL := Aside0.mk hL
  have HO := Aside0.mk hok
  have HV := Aside0.mk (l01Ok_c A c L hok w hL)
  clear hL hok
  cases h : vBooks L
  · rw [h] at HV
    have HE := Aside0.mk (show firstV L = 0 ∧ firstE L = 1 by unfold firstV firstE; rw [h]; exact ⟨rfl, rfl⟩)
    clear h
    go_enter Try.func63, Try.ntmps63
    go_wp2_with fail
    refine HV.out.mono ?_; rintro _ w1 ⟨rfl, hb1⟩
    go_wp2_with fail
    go_ret2
    exact ⟨ret_two HE.out.1.symm HE.out.2.symm, hb1⟩
  · rw [h] at HV
    have HE := Aside0.mk (show firstV L = (if outOf L < 0 then 0 else outOf L) ∧ firstE L = (if outOf L < 0 then 6 else 0) by unfold firstV firstE; rw [h]; exact ⟨rfl, rfl⟩)
    clear h
    go_enter Try.func63, Try.ntmps63
    go_wp2_with fail
    refine HV.out.mono ?_; rintro _ w1 ⟨rfl, hb1⟩
    go_wp2_with fail
    refine (l01Out_c A c L _ (Kd.C_below HL.out hb1) HO.out).mono ?_; rintro _ w2 ⟨rfl, hb2⟩
    have HB2 := Aside0.mk (bstep hb1 hb2)
    clear hb1 hb2
    generalize ho : outOf L = o at HE ⊢
    clear ho
    by_cases hf : o < 0
    · rw [if_pos hf, if_pos hf] at HE
      go_wp2_with fail
      go_ret2
      exact ⟨ret_two HE.out.1.symm HE.out.2.symm, HB2.out⟩
    · rw [if_neg hf, if_neg hf] at HE
      go_wp2_with fail
      go_ret2
      exact ⟨ret_two HE.out.1.symm HE.out.2.symm, HB2.out⟩
def runsV (L : List Bk) : List Int := if vBooks L = true then runsL L else []
theorem runsV_len (L : List Bk) : (runsV L).length ≤ 2097152 := by
  unfold runsV
  split
  · rename_i h
    have := runsN_len L L.length
    have := vBooks_len h
    unfold runsL
    omega
  · simp
theorem RunsOf_c (A : Option Addr) (c : Nat) (L : List Bk) (w : World) (hL : kBk.C w A L.length L) : Calls Try.prog 78 #[.slice A L.length c] w (RetQ w (TupI w (runsV L) (eV L))) := by
  have HL := Aside0.mk hL
  have HV := Aside0.mk (ValidBooks_c A c L w hL)
  clear hL
  cases h : vBooks L
  · rw [h] at HV
    have HE := Aside0.mk (show runsV L = [] ∧ eV L = 1 by unfold runsV eV; rw [h]; exact ⟨rfl, rfl⟩)
    clear h
    go_enter Try.func78, Try.ntmps78
    go_wp2_with fail
    refine HV.out.mono ?_; rintro _ w1 ⟨rfl, hb1⟩
    go_wp2_with fail
    go_ret2
    rw [HE.out.1, HE.out.2]
    exact ⟨_, rfl, hb1, _, rfl, Kd.R_nil _ _ _ _ _⟩
  · rw [h] at HV
    have HN := Aside0.mk (vBooks_len h)
    have HE := Aside0.mk (show runsV L = runsL L ∧ eV L = 0 by unfold runsV eV; rw [h]; exact ⟨rfl, rfl⟩)
    clear h
    go_enter Try.func78, Try.ntmps78
    go_wp2_with fail
    refine HV.out.mono ?_; rintro _ w1 ⟨rfl, hb1⟩
    go_wp2_with fail
    refine (runs_c A c L w1 (Kd.C_below HL.out hb1) HN.out).mono ?_; rintro _ w2 ⟨v, rfl, hb2, hv⟩
    have HB2 := Aside0.mk (bstep hb1 hb2)
    have HV2 := Aside0.mk (show NewI w (runsL L) v w2 from Kd.R_lower hv hb1.size)
    clear hb1 hb2 hv
    go_wp2_with fail
    go_ret2
    rw [HE.out.1, HE.out.2]
    exact ⟨_, rfl, HB2.out, _, rfl, HV2.out⟩
theorem specRunsOf_c (A : Option Addr) (c : Nat) (L : List Bk) (hok : OkL L) (w : World) (hL : kBk.C w A L.length L) : Calls Try.prog 77 #[.slice A L.length c] w (RetQ w (TupI w (runsV L) (eV L))) := by
  have HL := Aside0.mk hL
  have HO := Aside0.mk hok
  have HV := Aside0.mk (l01Ok_c A c L hok w hL)
  clear hL hok
  cases h : vBooks L
  · rw [h] at HV
    have HE := Aside0.mk (show runsV L = [] ∧ eV L = 1 by unfold runsV eV; rw [h]; exact ⟨rfl, rfl⟩)
    clear h
    go_enter Try.func77, Try.ntmps77
    go_wp2_with fail
    refine HV.out.mono ?_; rintro _ w1 ⟨rfl, hb1⟩
    have HZ := Aside0.mk (R_zero (Kd.int .i64) 2 w1 w.heap.size (fun _ => True) hb1.size trivial)
    have HB2 := Aside0.mk (balloc hb1 (.cells #[] 2))
    clear hb1
    go_wp2_with fail
    go_ret2
    rw [HE.out.1, HE.out.2]
    exact ⟨_, rfl, HB2.out, _, rfl, HZ.out⟩
  · rw [h] at HV
    have HN := Aside0.mk (vBooks_len h)
    have HE := Aside0.mk (show runsV L = runsL L ∧ eV L = 0 by unfold runsV eV; rw [h]; exact ⟨rfl, rfl⟩)
    clear h
    go_enter Try.func77, Try.ntmps77
    go_wp2_with fail
    refine HV.out.mono ?_; rintro _ w1 ⟨rfl, hb1⟩
    go_wp2_with fail
    refine (l01Runs_c A c L w1 (Kd.C_below HL.out hb1) HO.out HN.out).mono ?_; rintro _ w2 ⟨v, rfl, hb2, hv⟩
    have HB2 := Aside0.mk (bstep hb1 hb2)
    have HV2 := Aside0.mk (show NewI w (runsL L) v w2 from Kd.R_lower hv hb1.size)
    clear hb1 hb2 hv
    go_wp2_with fail
    go_ret2
    rw [HE.out.1, HE.out.2]
    exact ⟨_, rfl, HB2.out, _, rfl, HV2.out⟩
end Go.Proofs.Ytgdhopcbiekhhaa
