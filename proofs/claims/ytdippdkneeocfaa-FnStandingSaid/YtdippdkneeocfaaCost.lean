/- What a layout costs, how many shelves it uses: the program's and the reference's. -/
import Derived.Test.YtdippdkneeocfaaSh
import Derived.StillTailTactics
import Derived.Still
import Derived.Deep.QuietTactic
import Derived.BigQuiet
namespace Go.Proofs.Ytdippdkneeocfaa
open Go.RowKit Go.Proofs.YtdippdkneeocfaaW.PrintWords Go.Proofs.YtdippdkneeocfaaW.PrintMore
set_option linter.unusedVariables false
set_option linter.unusedSimpArgs false
set_option maxRecDepth 100000

/-- What books on a shelf cost, -1 if they do not fit. -/
def prL (k : Cs) (s : Nat) (M : List Bk) (b : Bool) : Int := if fitL k s M = true then (if b = true then usL M else sqL k M) else -1
theorem freeL_yes {k : Cs} {s : Nat} {M : List Bk} (h : fitL k s M = true) : freeL k s M = frL k M := by unfold freeL frL; rw [if_pos h]
theorem freeL_no {k : Cs} {s : Nat} {M : List Bk} (h : fitL k s M = false) : freeL k s M = -1 := by unfold freeL; rw [h]; rfl
set_option maxHeartbeats 2000000 in
theorem l02Price_c (k : Cs) (A : Option Addr) (c s : Nat) (p : Addr) (A1 : Option Addr) (c1 : Nat) (M : List Bk) (b : Bool) (hok : k.ok) (hbd : CsBd k) (hM : FitOk M) (hs : s < k.hs.length) (w : World) (hp : CsAt w p k A c) (hC : (Kd.int .i16).C w A k.hs.length k.hs) (hL : kBk.C w A1 M.length M) :
    Calls Try.prog 172 #[.pointer (some p), .int .i64 s, .slice A1 M.length c1, .bool b] w (Ret w (.int .i64 (prL k s M b))) := by
  have hm := Kd.C_max hL
  have HF := Aside0.mk (l02Free_c k A c s p A1 c1 M hok hM hs (hbd.h s) w hp hC hL)
  clear hC hL hp
  cases hf : fitL k s M
  · have HR := Aside0.mk (show prL k s M b = -1 by unfold prL; rw [hf]; rfl)
    rw [freeL_no hf] at HF
    clear hf
    go_enter Try.func172, Try.ntmps172
    go_wp2_with fail
    refine HF.out.mono ?_; rintro _ w1 ⟨rfl, hb1⟩
    go_wp2_with fail
    go_ret
    exact ⟨ret_int HR.out.symm, hb1⟩
  · rw [freeL_yes hf] at HF
    obtain ⟨f0, f1⟩ := frL_bd hbd hM hf
    obtain ⟨g0, g1⟩ := sq_bd f0 f1
    by_cases h0 : M.length = 0
    · have HR := Aside0.mk (show prL k s M b = 0 by unfold prL usL sqL; rw [hf, if_pos rfl, if_pos h0, if_pos h0]; cases b <;> rfl)
      have b0 : ((M.length : Int) == 0) = true := by simp [h0]
      have b0' : (M.length == 0) = true := by simp [h0]
      generalize frL k M = q at HF f0 f1 g0 g1
      have n0 : ¬ q < 0 := by omega
      clear h0 hf
      go_enter Try.func172, Try.ntmps172
      go_wp2_with fail
      refine HF.out.mono ?_; rintro _ w1 ⟨rfl, hb1⟩
      go_wp2_with fail
      go_ret
      exact ⟨ret_int HR.out.symm, hb1⟩
    · have b0 : ((M.length : Int) == 0) = false := by simpa using h0
      have b0' : (M.length == 0) = false := by simpa using h0
      cases b
      · have HR := Aside0.mk (show prL k s M false = frL k M * frL k M by unfold prL sqL; rw [hf, if_pos rfl, if_neg h0]; rfl)
        have hw : IntKind.i64.wrap (frL k M * frL k M) = frL k M * frL k M := by generalize frL k M * frL k M = q at g0 g1; simp only [IntKind.wrap, IntKind.bits, IntKind.signed, Bool.true_and, decide_eq_true_eq, ge_iff_le]; split <;> omega
        generalize frL k M = q at HF f0 f1 g0 g1 hw HR
        have n0 : ¬ q < 0 := by omega
        clear h0 hf
        go_enter Try.func172, Try.ntmps172
        go_wp2_with fail
        refine HF.out.mono ?_; rintro _ w1 ⟨rfl, hb1⟩
        go_wp2_with fail
        go_ret
        exact ⟨ret_int HR.out.symm, hb1⟩
      · have HR := Aside0.mk (show prL k s M true = 1 by unfold prL usL; rw [hf, if_pos rfl, if_neg h0]; rfl)
        generalize frL k M = q at HF f0 f1 g0 g1
        have n0 : ¬ q < 0 := by omega
        clear h0 hf
        go_enter Try.func172, Try.ntmps172
        go_wp2_with fail
        refine HF.out.mono ?_; rintro _ w1 ⟨rfl, hb1⟩
        go_wp2_with fail
        go_ret
        exact ⟨ret_int HR.out.symm, hb1⟩
def sumN (f : Nat → Int) : Nat → Int
  | 0 => 0
  | n + 1 => sumN f n + f n
/-- The cost of a shelf. -/
def ssL (k : Cs) (L : List Bk) (E : List Int) (b : Bool) (s : Nat) : Int := if b = true then usL (shB L E s) else sqL k (shB L E s)
theorem ssL_bd {k : Cs} {L : List Bk} {E : List Int} (hP : LayP k L E) (b : Bool) {s : Nat} (hs : s < E.length) : 0 ≤ ssL k L E b s ∧ ssL k L E b s ≤ 4000000 := by
  have h1 := (FitOk.of hP.list).sub (subL_sub L (bef E s) (E.getD s 0))
  have h2 := frL_bd (vCase_bd hP.case) h1 (hP.s s hs).2
  have h3 := sq_bd h2.1 h2.2
  unfold ssL usL sqL shB
  split <;> split <;> omega
theorem sumN_bd {k : Cs} {L : List Bk} {E : List Int} (hP : LayP k L E) (b : Bool) (n : Nat) (hn : n ≤ E.length) : 0 ≤ sumN (ssL k L E b) n ∧ sumN (ssL k L E b) n ≤ 4000000 * n := by
  induction n with
  | zero => exact ⟨Int.le_refl _, by show (0 : Int) ≤ _; omega⟩
  | succ n ih =>
    have h1 := ih (by omega)
    have h2 := ssL_bd hP b (s := n) (by omega)
    rw [sumN]
    omega
def coV (k : Cs) (L : List Bk) (E : List Int) (b : Bool) : Int := if layC k L E = 0 then sumN (ssL k L E b) E.length else 0
theorem co_bad {k : Cs} {L : List Bk} {E : List Int} {b : Bool} (h : layC k L E ≠ 0) : coV k L E b = 0 := by unfold coV; rw [if_neg h]
theorem co_ok {k : Cs} {L : List Bk} {E : List Int} {b : Bool} (h : layC k L E = 0) : coV k L E b = sumN (ssL k L E b) E.length := by unfold coV; rw [if_pos h]
set_option maxHeartbeats 4000000 in
theorem l02Sum_c (k : Cs) (A : Option Addr) (c : Nat) (p : Addr) (A1 : Option Addr) (c1 : Nat) (L : List Bk) (A2 : Option Addr) (c2 : Nat) (E : List Int) (b : Bool) (hok : k.ok) (hP : LayP k L E) (hc1 : L.length ≤ c1) (w : World) (hp : CsAt w p k A c) (hC : (Kd.int .i16).C w A k.hs.length k.hs) (hL : kBk.C w A1 L.length L) (hE : (Kd.int .i64).C w A2 E.length E) :
    Calls Try.prog 139 #[.pointer (some p), .slice A1 L.length c1, .slice A2 E.length c2, .bool b] w (Ret w (.int .i64 (sumN (ssL k L E b) E.length))) := by
  have hm1 := Kd.C_max hL
  have hm2 := Kd.C_max hE
  have HC := Aside0.mk hC
  have HL := Aside0.mk hL
  have HE := Aside0.mk hE
  have HX := Aside0.mk hp
  have HP := Aside0.mk hP
  have HOK := Aside0.mk hok
  have hn12 : E.length ≤ 12 := by have := (vCase_bd hP.case).n.2; have := hP.n; omega
  clear hL hE hP hC hp hok
  go_enter Try.func139, Try.ntmps139
  go_wp2_with fail
  go_loopg [9, 10] E.length (fun gk v9 v10 wr => ∃ s : Nat, s + gk = E.length ∧ v10 = .int .i64 s ∧ v9 = .int .i64 (sumN (ssL k L E b) s) ∧ Aside0 (Below w.heap.size w wr))
  case atStart => exact ⟨0, by omega, rfl, rfl, ⟨Below.refl _ _⟩⟩
  case round =>
    obtain ⟨s, hk, rfl, rfl, hb⟩ := hrel
    have HK := Aside0.mk hk
    by_cases hlt : s < E.length
    · obtain ⟨ad, e, rfl, hbe, hxe⟩ := at_int' (Kd.C_below HE.out hb.out) s hlt
      have hse := (HP.out.s s hlt)
      have ha0 := (HP.out.nn s (by omega)).1
      have HF := Aside0.mk (fun W h => (l02From_c (some ad) c2 E s (by omega) W h).mono fun e w' h => h.ret)
      obtain ⟨u0, u1⟩ := sumN_bd HP.out b s (by omega)
      obtain ⟨v0, v1⟩ := ssL_bd HP.out b hlt
      have HSS := Aside0.mk (show sumN (ssL k L E b) (s + 1) = sumN (ssL k L E b) s + ssL k L E b s from rfl)
      rw [getD_of hbe.out] at hse
      obtain ⟨⟨e1, e2⟩, hfit⟩ := hse
      have HPR := Aside0.mk (show prL k s (subL L (bef E s) e) b = ssL k L E b s by unfold prL ssL shB; rw [hfit, if_pos rfl, getD_of hbe.out])
      obtain ⟨A', c', hcut, hc', hCC⟩ := cut_bk A1 c1 L (bef E s) e ha0 e1 e2 hc1
      have HCC := Aside0.mk hCC
      have HPC := Aside0.mk (fun W h1 h2 h3 => l02Price_c k A c s p A' c' (subL L (bef E s) e) b HOK.out (vCase_bd HP.out.case) ((FitOk.of HP.out.list).sub (subL_sub L _ _)) (by have := HP.out.n; omega) W h1 h2 h3)
      rw [HPR.out] at HPC
      generalize bef E s = a at HF hcut hc' HCC e1 ha0 HPC
      generalize subL L a e = M at HPC hcut hc' HCC
      generalize ssL k L E b s = z at HPC HSS v0 v1
      generalize sumN (ssL k L E b) s = y at HSS u0 u1
      have hxO : ∀ p : Over wr, p.W.cell? (ad.add s) = some (.int .i64 e) := Over.cell hxe
      have i0 : (0 : Int) ≤ (s : Int) := by omega
      have i1 : (s : Int) < (E.length : Int) := by omega
      have y1 : y ≤ 48000000 := by omega
      clear hk hCC hfit HPR u1
      go_wp2_with fail
      refine region_over (by kernel_rfl) (by kernel_rfl) ?_
      repeat (go_big_quiet_step (first | (go_at_call 135; exact Calls.over_of (HF.out _ (Kd.C_below HE.out (hb.out.trans ((Over.h _).mono hb.out.size))))) | (go_at_call 172; exact Calls.over_of (HPC.out _ (HX.out.below (hb.out.trans ((Over.h _).mono hb.out.size))) (Kd.C_below HC.out (hb.out.trans ((Over.h _).mono hb.out.size))) (HCC.out _ (Kd.C_below HL.out (hb.out.trans ((Over.h _).mono hb.out.size))))))))
      refine wpQuiet_nil ?_
      intro wq1 hw'
      have hq_wq1 := over_out hw'
      clear hw'
      have HQ := Aside0.mk (bstep hb.out hq_wq1)
      clear hq_wq1 hxO hcut hxe
      go_wp2
      go_roundg (gk - 1)
      case measure => have := HK.out; omega
      case rel => exact ⟨s + 1, by have := HK.out; omega, by go_num, by rw [HSS.out], HQ⟩
    · have hs : s = E.length := by omega
      have HR := Aside0.mk (show sumN (ssL k L E b) E.length = sumN (ssL k L E b) s by rw [hs])
      clear hk hs
      go_wp2
      go_ret
      exact ⟨ret_int HR.out.symm, hb.out⟩
set_option maxHeartbeats 4000000 in
theorem CostOf_c (k : Cs) (A : Option Addr) (c : Nat) (A1 : Option Addr) (c1 : Nat) (L : List Bk) (A2 : Option Addr) (c2 : Nat) (E : List Int) (hok : k.ok) (hoL : OkL L) (hc1 : L.length ≤ c1) (w : World) (hC : (Kd.int .i16).C w A k.hs.length k.hs) (hL : kBk.C w A1 L.length L) (hE : (Kd.int .i64).C w A2 E.length E) :
    Calls Try.prog 73 #[k.val A c, .slice A1 L.length c1, .slice A2 E.length c2] w (Ret w (.tuple #[.int .i64 (coV k L E false), .int .i64 (layC k L E)])) := by
  have hm := Kd.C_max hC
  have hm1 := Kd.C_max hL
  have hm2 := Kd.C_max hE
  have HLC := Aside0.mk (show Calls Try.prog 136 #[k.val A c, .slice A1 L.length c1, .slice A2 E.length c2] (w.alloc (.cells #[.int .i16 k.wd, .int .i32 k.ld, .slice A k.hs.length c] 51)) (Ret (w.alloc (.cells #[.int .i16 k.wd, .int .i32 k.ld, .slice A k.hs.length c] 51)) (.int .i64 (layC k L E))) from layoutCode_c k A c A1 c1 L A2 c2 E hok hoL hc1 _ (Kd.C_alloc hC _) (Kd.C_alloc hL _) (Kd.C_alloc hE _))
  have HC := Aside0.mk hC
  have HL := Aside0.mk hL
  have HE2 := Aside0.mk hE
  have HB := Aside0.mk (balloc (Below.refl w.heap.size w) (.cells #[.int .i16 k.wd, .int .i32 k.ld, .slice A k.hs.length c] 51))
  have HX := Aside0.mk (CsAt.box w k A c 51)
  clear hC hL hE
  simp only [Cs.val] at HLC ⊢
  by_cases hv : layC k L E = 0
  · have HP := Aside0.mk (layP_of hv)
    have HR := Aside0.mk (co_ok (b := false) hv)
    have HOK := Aside0.mk hok
    have HOL := Aside0.mk hoL
    have hn12 : E.length ≤ 12 := by have := (vCase_bd HP.out.case).n.2; have := HP.out.n; omega
    have HON := Aside0.mk (fun W h1 h2 => onShelves_c k A1 c1 L A2 c2 E HP.out hc1 W h1 h2)
    rw [hv] at HLC ⊢
    clear hv hok hoL
    have hlen := shL_len L E E.length
    obtain ⟨y0, y1, y2⟩ := HX.out
    go_enter Try.func73, Try.ntmps73
    go_wp2_with fail
    refine HLC.out.mono ?_; rintro _ w1 ⟨rfl, hb1⟩
    have HB1 := Aside0.mk (bstep HB.out hb1)
    have HX1 := Aside0.mk (HX.out.below hb1)
    clear hb1 y0 y1 y2
    obtain ⟨y0, y1, y2⟩ := HX1.out
    go_wp2_with fail
    refine (HON.out _ (Kd.C_below HL.out HB1.out) (Kd.C_below HE2.out HB1.out)).mono ?_; rintro _ w2 ⟨_, rfl, hb2, hv2⟩
    have HB2 := Aside0.mk (bstep HB1.out hb2)
    have HX2 := Aside0.mk (HX1.out.below hb2)
    have HB12 := Aside0.mk hb2
    obtain ⟨XA, xc, rfl, hxc, HXC⟩ := hv2.open
    rw [hlen] at hxc HXC ⊢
    clear hb2 hv2 y0 y1 y2 hlen
    go_wp2_with fail
    go_loopg [9, 23] E.length (fun gk v9 v23 wr => ∃ s : Nat, s + gk = E.length ∧ v23 = .int .i64 s ∧ v9 = .int .i64 (sumN (ssL k L E false) s) ∧ Aside0 (Below w2.heap.size w2 wr))
    case atStart => exact ⟨0, by omega, rfl, rfl, ⟨Below.refl _ _⟩⟩
    case round =>
      obtain ⟨s, hk, rfl, rfl, hb⟩ := hrel
      have HK := Aside0.mk hk
      by_cases hlt : s < E.length
      · obtain ⟨ad, p, A', c', rfl, hbp, hxp, hc', hCC⟩ := at_sh (Kd.C_below HXC.out hb.out) s hlt
        have hpe := shL_at hbp.out
        have hfit := (HP.out.s s hlt).2
        obtain ⟨u0, u1⟩ := sumN_bd HP.out false s (by omega)
        obtain ⟨v0, v1⟩ := ssL_bd HP.out false hlt
        have HSS := Aside0.mk (show sumN (ssL k L E false) (s + 1) = sumN (ssL k L E false) s + sqL k p by rw [hpe]; rfl)
        have hvz : ssL k L E false s = sqL k p := by rw [hpe]; rfl
        rw [hvz] at v0 v1
        have HSQ := Aside0.mk (fun W h => square_c k A c A' c' p s HOK.out (vCase_bd HP.out.case) (by rw [hpe]; exact (FitOk.of HP.out.list).sub (subL_sub L _ _)) (by rw [hpe]; exact fun b hb => HOL.out b ((subL_sub L _ _).subset hb)) (by rw [hpe]; exact hfit) W h)
        simp only [Cs.val] at HSQ
        have HCC := Aside0.mk (Kd.C_below hCC.out HB12.out)
        generalize sqL k p = z at HSQ HSS v0 v1
        generalize sumN (ssL k L E false) s = y at HSS u0 u1
        obtain ⟨y0, y1, y2⟩ := HX2.out.below hb.out
        have i0 : (0 : Int) ≤ (s : Int) := by omega
        have i1 : (s : Int) < (E.length : Int) := by omega
        have y3 : y ≤ 48000000 := by omega
        clear hk hfit u1 hvz hpe hCC
        go_wp2_with fail
        refine (HSQ.out _ (Kd.C_below HCC.out hb.out)).mono ?_; rintro _ w3 ⟨rfl, hb3⟩
        have HQ := Aside0.mk (bstep hb.out hb3)
        clear hb3 y0 y1 y2
        go_wp2
        go_roundg (gk - 1)
        case measure => have := HK.out; omega
        case rel => exact ⟨s + 1, by have := HK.out; omega, by go_num, by rw [HSS.out], HQ⟩
      · have hs : s = E.length := by omega
        have HR2 := Aside0.mk (show coV k L E false = sumN (ssL k L E false) s by rw [HR.out, hs])
        clear hk hs
        go_wp2
        go_ret2
        exact ⟨ret_two HR2.out.symm rfl, HB2.out.trans (hb.out.mono HB2.out.size)⟩
  · have HR := Aside0.mk (co_bad (b := false) hv)
    have bq : (layC k L E != 0) = true := by simpa using hv
    generalize layC k L E = e at HLC bq ⊢
    clear hv
    obtain ⟨y0, y1, y2⟩ := HX.out
    go_enter Try.func73, Try.ntmps73
    go_wp2_with fail
    refine HLC.out.mono ?_; rintro _ w1 ⟨rfl, hb1⟩
    have HB1 := Aside0.mk (bstep HB.out hb1)
    have HX1 := Aside0.mk (HX.out.below hb1)
    clear hb1 y0 y1 y2
    obtain ⟨y0, y1, y2⟩ := HX1.out
    go_wp2_with fail
    go_ret2
    exact ⟨ret_two HR.out.symm rfl, HB1.out⟩
set_option maxHeartbeats 4000000 in
theorem UsedShelves_c (k : Cs) (A : Option Addr) (c : Nat) (A1 : Option Addr) (c1 : Nat) (L : List Bk) (A2 : Option Addr) (c2 : Nat) (E : List Int) (hok : k.ok) (hoL : OkL L) (hc1 : L.length ≤ c1) (w : World) (hC : (Kd.int .i16).C w A k.hs.length k.hs) (hL : kBk.C w A1 L.length L) (hE : (Kd.int .i64).C w A2 E.length E) :
    Calls Try.prog 69 #[k.val A c, .slice A1 L.length c1, .slice A2 E.length c2] w (Ret w (.tuple #[.int .i64 (coV k L E true), .int .i64 (layC k L E)])) := by
  have hm := Kd.C_max hC
  have hm1 := Kd.C_max hL
  have hm2 := Kd.C_max hE
  have HLC := Aside0.mk (show Calls Try.prog 136 #[k.val A c, .slice A1 L.length c1, .slice A2 E.length c2] (w.alloc (.cells #[.int .i16 k.wd, .int .i32 k.ld, .slice A k.hs.length c] 51)) (Ret (w.alloc (.cells #[.int .i16 k.wd, .int .i32 k.ld, .slice A k.hs.length c] 51)) (.int .i64 (layC k L E))) from layoutCode_c k A c A1 c1 L A2 c2 E hok hoL hc1 _ (Kd.C_alloc hC _) (Kd.C_alloc hL _) (Kd.C_alloc hE _))
  have HC := Aside0.mk hC
  have HL := Aside0.mk hL
  have HE2 := Aside0.mk hE
  have HB := Aside0.mk (balloc (Below.refl w.heap.size w) (.cells #[.int .i16 k.wd, .int .i32 k.ld, .slice A k.hs.length c] 51))
  have HX := Aside0.mk (CsAt.box w k A c 51)
  clear hC hL hE
  simp only [Cs.val] at HLC ⊢
  by_cases hv : layC k L E = 0
  · have HP := Aside0.mk (layP_of hv)
    have HR := Aside0.mk (co_ok (b := true) hv)
    have hn12 : E.length ≤ 12 := by have := (vCase_bd HP.out.case).n.2; have := HP.out.n; omega
    have HON := Aside0.mk (fun W h1 h2 => onShelves_c k A1 c1 L A2 c2 E HP.out hc1 W h1 h2)
    rw [hv] at HLC ⊢
    clear hv hok hoL
    have hlen := shL_len L E E.length
    obtain ⟨y0, y1, y2⟩ := HX.out
    go_enter Try.func69, Try.ntmps69
    go_wp2_with fail
    refine HLC.out.mono ?_; rintro _ w1 ⟨rfl, hb1⟩
    have HB1 := Aside0.mk (bstep HB.out hb1)
    have HX1 := Aside0.mk (HX.out.below hb1)
    clear hb1 y0 y1 y2
    obtain ⟨y0, y1, y2⟩ := HX1.out
    go_wp2_with fail
    refine (HON.out _ (Kd.C_below HL.out HB1.out) (Kd.C_below HE2.out HB1.out)).mono ?_; rintro _ w2 ⟨_, rfl, hb2, hv2⟩
    have HB2 := Aside0.mk (bstep HB1.out hb2)
    obtain ⟨XA, xc, rfl, hxc, HXC⟩ := hv2.open
    rw [hlen] at hxc HXC ⊢
    clear hb2 hv2 y0 y1 y2 hlen
    go_wp2_with fail
    go_loopg [9, 23] E.length (fun gk v9 v23 wr => ∃ s : Nat, s + gk = E.length ∧ v23 = .int .i64 s ∧ v9 = .int .i64 (sumN (ssL k L E true) s) ∧ w2 = wr)
    case atStart => exact ⟨0, by omega, rfl, rfl, rfl⟩
    case round =>
      obtain ⟨s, hk, rfl, rfl, rfl⟩ := hrel
      have HK := Aside0.mk hk
      by_cases hlt : s < E.length
      · obtain ⟨ad, p, A', c', rfl, hbp, hxp, hc', hCC⟩ := at_sh HXC.out s hlt
        have hpe := shL_at hbp.out
        obtain ⟨u0, u1⟩ := sumN_bd HP.out true s (by omega)
        obtain ⟨v0, v1⟩ := ssL_bd HP.out true hlt
        have HSS := Aside0.mk (show sumN (ssL k L E true) (s + 1) = sumN (ssL k L E true) s + usL p by rw [hpe]; rfl)
        have hvz : ssL k L E true s = usL p := by rw [hpe]; rfl
        rw [hvz] at v0 v1
        have HSQ := Aside0.mk (fun W => used_c A' c' p W (Kd.C_max hCC.out))
        generalize usL p = z at HSQ HSS v0 v1
        generalize sumN (ssL k L E true) s = y at HSS u0 u1
        have i0 : (0 : Int) ≤ (s : Int) := by omega
        have i1 : (s : Int) < (E.length : Int) := by omega
        have y3 : y ≤ 48000000 := by omega
        clear hk u1 hvz hpe hCC
        go_wp2_with fail
        refine (HSQ.out _).mono ?_; rintro _ w3 ⟨rfl, rfl⟩
        go_wp2
        go_roundg (gk - 1)
        case measure => have := HK.out; omega
        case rel => exact ⟨s + 1, by have := HK.out; omega, by go_num, by rw [HSS.out], rfl⟩
      · have hs : s = E.length := by omega
        have HR2 := Aside0.mk (show coV k L E true = sumN (ssL k L E true) s by rw [HR.out, hs])
        clear hk hs
        go_wp2
        go_ret2
        exact ⟨ret_two HR2.out.symm rfl, HB2.out⟩
  · have HR := Aside0.mk (co_bad (b := true) hv)
    have bq : (layC k L E != 0) = true := by simpa using hv
    generalize layC k L E = e at HLC bq ⊢
    clear hv
    obtain ⟨y0, y1, y2⟩ := HX.out
    go_enter Try.func69, Try.ntmps69
    go_wp2_with fail
    refine HLC.out.mono ?_; rintro _ w1 ⟨rfl, hb1⟩
    have HB1 := Aside0.mk (bstep HB.out hb1)
    have HX1 := Aside0.mk (HX.out.below hb1)
    clear hb1 y0 y1 y2
    obtain ⟨y0, y1, y2⟩ := HX1.out
    go_wp2_with fail
    go_ret2
    exact ⟨ret_two HR.out.symm rfl, HB1.out⟩
set_option maxHeartbeats 2000000 in
theorem specCostOf_c (k : Cs) (A : Option Addr) (c : Nat) (A1 : Option Addr) (c1 : Nat) (L : List Bk) (A2 : Option Addr) (c2 : Nat) (E : List Int) (hok : k.ok) (hoL : OkL L) (hc1 : L.length ≤ c1) (w : World) (hC : (Kd.int .i16).C w A k.hs.length k.hs) (hL : kBk.C w A1 L.length L) (hE : (Kd.int .i64).C w A2 E.length E) :
    Calls Try.prog 72 #[k.val A c, .slice A1 L.length c1, .slice A2 E.length c2] w (Ret w (.tuple #[.int .i64 (coV k L E false), .int .i64 (layC k L E)])) := by
  have hm := Kd.C_max hC
  have hm1 := Kd.C_max hL
  have hm2 := Kd.C_max hE
  have HLC := Aside0.mk (show Calls Try.prog 134 #[.pointer (some ⟨w.heap.size, 0, none⟩), .slice A1 L.length c1, .slice A2 E.length c2] (w.alloc (.cells #[.int .i16 k.wd, .int .i32 k.ld, .slice A k.hs.length c] 51)) (Ret (w.alloc (.cells #[.int .i16 k.wd, .int .i32 k.ld, .slice A k.hs.length c] 51)) (.int .i64 (layC k L E))) from l02Laid_c k A c _ A1 c1 L A2 c2 E hok hoL hc1 _ (CsAt.box w k A c 51) (Kd.C_alloc hC _) (Kd.C_alloc hL _) (Kd.C_alloc hE _))
  have HC := Aside0.mk hC
  have HL := Aside0.mk hL
  have HE2 := Aside0.mk hE
  have HB := Aside0.mk (balloc (Below.refl w.heap.size w) (.cells #[.int .i16 k.wd, .int .i32 k.ld, .slice A k.hs.length c] 51))
  have HX := Aside0.mk (CsAt.box w k A c 51)
  clear hC hL hE
  simp only [Cs.val] at HLC ⊢
  by_cases hv : layC k L E = 0
  · have HS := Aside0.mk (fun p W h0 h1 h2 h3 => l02Sum_c k A c p A1 c1 L A2 c2 E false hok (layP_of hv) hc1 W h0 h1 h2 h3)
    have HR := Aside0.mk (co_ok (b := false) hv)
    rw [← HR.out] at HS
    rw [hv] at HLC ⊢
    clear hv
    obtain ⟨y0, y1, y2⟩ := HX.out
    go_enter Try.func72, Try.ntmps72
    go_wp2_with fail
    refine HLC.out.mono ?_; rintro _ w1 ⟨rfl, hb1⟩
    have HB1 := Aside0.mk (bstep HB.out hb1)
    have HX1 := Aside0.mk (HX.out.below hb1)
    clear hb1 y0 y1 y2
    obtain ⟨y0, y1, y2⟩ := HX1.out
    go_wp2_with fail
    refine (HS.out _ _ HX1.out (Kd.C_below HC.out HB1.out) (Kd.C_below HL.out HB1.out) (Kd.C_below HE2.out HB1.out)).mono ?_; rintro _ w2 ⟨rfl, hb2⟩
    have HB2 := Aside0.mk (bstep HB1.out hb2)
    clear hb2
    go_wp2_with fail
    go_ret2
    exact ⟨rfl, HB2.out⟩
  · have HR := Aside0.mk (co_bad (b := false) hv)
    have bq : (layC k L E != 0) = true := by simpa using hv
    generalize layC k L E = e at HLC bq ⊢
    clear hv
    obtain ⟨y0, y1, y2⟩ := HX.out
    go_enter Try.func72, Try.ntmps72
    go_wp2_with fail
    refine HLC.out.mono ?_; rintro _ w1 ⟨rfl, hb1⟩
    have HB1 := Aside0.mk (bstep HB.out hb1)
    have HX1 := Aside0.mk (HX.out.below hb1)
    clear hb1 y0 y1 y2
    obtain ⟨y0, y1, y2⟩ := HX1.out
    go_wp2_with fail
    go_ret2
    exact ⟨ret_two HR.out.symm rfl, HB1.out⟩
set_option maxHeartbeats 2000000 in
theorem specUsedShelves_c (k : Cs) (A : Option Addr) (c : Nat) (A1 : Option Addr) (c1 : Nat) (L : List Bk) (A2 : Option Addr) (c2 : Nat) (E : List Int) (hok : k.ok) (hoL : OkL L) (hc1 : L.length ≤ c1) (w : World) (hC : (Kd.int .i16).C w A k.hs.length k.hs) (hL : kBk.C w A1 L.length L) (hE : (Kd.int .i64).C w A2 E.length E) :
    Calls Try.prog 68 #[k.val A c, .slice A1 L.length c1, .slice A2 E.length c2] w (Ret w (.tuple #[.int .i64 (coV k L E true), .int .i64 (layC k L E)])) := by
  have hm := Kd.C_max hC
  have hm1 := Kd.C_max hL
  have hm2 := Kd.C_max hE
  have HLC := Aside0.mk (show Calls Try.prog 134 #[.pointer (some ⟨w.heap.size, 0, none⟩), .slice A1 L.length c1, .slice A2 E.length c2] (w.alloc (.cells #[.int .i16 k.wd, .int .i32 k.ld, .slice A k.hs.length c] 51)) (Ret (w.alloc (.cells #[.int .i16 k.wd, .int .i32 k.ld, .slice A k.hs.length c] 51)) (.int .i64 (layC k L E))) from l02Laid_c k A c _ A1 c1 L A2 c2 E hok hoL hc1 _ (CsAt.box w k A c 51) (Kd.C_alloc hC _) (Kd.C_alloc hL _) (Kd.C_alloc hE _))
  have HC := Aside0.mk hC
  have HL := Aside0.mk hL
  have HE2 := Aside0.mk hE
  have HB := Aside0.mk (balloc (Below.refl w.heap.size w) (.cells #[.int .i16 k.wd, .int .i32 k.ld, .slice A k.hs.length c] 51))
  have HX := Aside0.mk (CsAt.box w k A c 51)
  clear hC hL hE
  simp only [Cs.val] at HLC ⊢
  by_cases hv : layC k L E = 0
  · have HS := Aside0.mk (fun p W h0 h1 h2 h3 => l02Sum_c k A c p A1 c1 L A2 c2 E true hok (layP_of hv) hc1 W h0 h1 h2 h3)
    have HR := Aside0.mk (co_ok (b := true) hv)
    rw [← HR.out] at HS
    rw [hv] at HLC ⊢
    clear hv
    obtain ⟨y0, y1, y2⟩ := HX.out
    go_enter Try.func68, Try.ntmps68
    go_wp2_with fail
    refine HLC.out.mono ?_; rintro _ w1 ⟨rfl, hb1⟩
    have HB1 := Aside0.mk (bstep HB.out hb1)
    have HX1 := Aside0.mk (HX.out.below hb1)
    clear hb1 y0 y1 y2
    obtain ⟨y0, y1, y2⟩ := HX1.out
    go_wp2_with fail
    refine (HS.out _ _ HX1.out (Kd.C_below HC.out HB1.out) (Kd.C_below HL.out HB1.out) (Kd.C_below HE2.out HB1.out)).mono ?_; rintro _ w2 ⟨rfl, hb2⟩
    have HB2 := Aside0.mk (bstep HB1.out hb2)
    clear hb2
    go_wp2_with fail
    go_ret2
    exact ⟨rfl, HB2.out⟩
  · have HR := Aside0.mk (co_bad (b := true) hv)
    have bq : (layC k L E != 0) = true := by simpa using hv
    generalize layC k L E = e at HLC bq ⊢
    clear hv
    obtain ⟨y0, y1, y2⟩ := HX.out
    go_enter Try.func68, Try.ntmps68
    go_wp2_with fail
    refine HLC.out.mono ?_; rintro _ w1 ⟨rfl, hb1⟩
    have HB1 := Aside0.mk (bstep HB.out hb1)
    have HX1 := Aside0.mk (HX.out.below hb1)
    clear hb1 y0 y1 y2
    obtain ⟨y0, y1, y2⟩ := HX1.out
    go_wp2_with fail
    go_ret2
    exact ⟨ret_two HR.out.symm rfl, HB1.out⟩
end Go.Proofs.Ytdippdkneeocfaa
