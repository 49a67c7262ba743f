/- FreeOn: the program's and the reference's. -/
import Derived.Test.YtdippdkneeocfaaCost
import Derived.StillTailTactics
import Derived.Still
import Derived.Deep.QuietTactic
import Derived.BigQuiet
import Derived.Deep.RegionHeld3
namespace Go.Proofs.Ytdippdkneeocfaa
open Go.RowKit Go.Proofs.YtdippdkneeocfaaW.PrintWords Go.Proofs.YtdippdkneeocfaaW.PrintMore
set_option linter.unusedVariables false
set_option linter.unusedSimpArgs false
set_option maxRecDepth 100000

set_option maxHeartbeats 2000000 in
theorem eachSh_c (w0 w : World) (hb0 : Below w0.heap.size w0 w) (A : Option Addr) (c : Nat) (X : List (List Bk)) (hl : X.length ≤ 12) (hX : (kSh w0).C w A X.length X) (f : FuncId) (bd : Array Value) (p : List Bk → Int) (hfn : Fun Try.prog f)
    (hf : ∀ W, Below w0.heap.size w0 W → ∀ x, x ∈ X → ∀ A' c', kBk.C W A' x.length x → Calls Try.prog f (bd ++ #[.slice A' x.length c']) W (Ret W (.int .i64 (p x)))) :
    Calls Try.prog 147 #[.slice A X.length c, .func (.func f) bd #[]] w (RetQ w (NewI w (X.map p))) := by
  have hm := Kd.C_max hX
  have hcf := hfn.run
  have HF := Aside0.mk hf
  have HX := Aside0.mk hX
  have HB0 := Aside0.mk hb0
  clear hf hfn hX hb0
  go_enter Try.func147, Try.ntmps147
  go_wp2_with fail
  go_loopg [5, 10] X.length (fun gk v5 v10 wr => ∃ s : Nat, s + gk = X.length ∧ v10 = .int .i64 s ∧ Aside0 ((Kd.int .i64).R 2 wr w.heap.size (fun _ => True) v5 ((X.take s).map p)) ∧ Aside0 (Below w.heap.size w wr))
  case atStart => exact ⟨0, by omega, rfl, ⟨Kd.R_nil _ _ _ _ _⟩, ⟨Below.refl _ _⟩⟩
  case round =>
    obtain ⟨s, hk, rfl, HR, hb⟩ := hrel
    have HK := Aside0.mk hk
    by_cases hlt : s < X.length
    · obtain ⟨ad, q, A', c', rfl, hbq, hxq, hc', hCC⟩ := at_sh (Kd.C_below HX.out hb.out) s hlt
      have HBW := Aside0.mk (HB0.out.trans (hb.out.mono HB0.out.size))
      have HC := Aside0.mk (HF.out wr HBW.out q (mem_of hbq.out) A' c' (Kd.C_below hCC.out HBW.out))
      have HT := Aside0.mk (show (X.take (s + 1)).map p = (X.take s).map p ++ [p q] by rw [take_snoc hbq.out, List.map_append]; rfl)
      have i0 : (0 : Int) ≤ (s : Int) := by omega
      have i1 : (s : Int) < (X.length : Int) := by omega
      have hlen : ((X.take s).map p).length ≤ 2097152 := by rw [List.length_map, List.length_take]; omega
      generalize p q = z at HC HT
      clear hk hCC
      go_wp2_with fail
      refine HC.out.mono ?_; rintro _ w3 ⟨rfl, hb3⟩
      have HR3 := Aside0.mk (Kd.R_below HR.out hb3)
      have HB3 := Aside0.mk (bstep hb.out hb3)
      clear hb3
      go_wp2_with (at_builtin; refine i64_append (w := w) rfl (.tmp 14) (.tmp 18) rfl _ ((X.take s).map p) z rfl rfl HR3.out HB3.out hlen ?_; intro v1 w9 hR1 hB1 _; have HR9 := Aside0.mk hR1; have HB9 := Aside0.mk hB1; clear hR1 hB1)
      go_roundg (gk - 1)
      case measure => have := HK.out; omega
      case rel => exact ⟨s + 1, by have := HK.out; omega, by go_num, ⟨by rw [HT.out]; exact HR9.out⟩, HB9⟩
    · have hs : X.take s = X := List.take_of_length_le (by omega)
      rw [hs] at HR
      clear hk hs
      go_wp2
      go_ret
      exact ⟨_, rfl, hb.out, HR.out⟩
/-- What is free on the first n shelves. -/
def frN (k : Cs) (L : List Bk) (E : List Int) (n : Nat) : List Int := (shL L E n).map (frL k)
theorem frN_succ (k : Cs) (L : List Bk) (E : List Int) (n : Nat) : frN k L E (n + 1) = frN k L E n ++ [frL k (shB L E n)] := by unfold frN; rw [shL_succ, List.map_append]; rfl
theorem frN_len (k : Cs) (L : List Bk) (E : List Int) (n : Nat) : (frN k L E n).length = n := by unfold frN; rw [List.length_map, shL_len]
def frV (k : Cs) (L : List Bk) (E : List Int) : List Int := if layC k L E = 0 then frN k L E E.length else []
theorem frV_len (k : Cs) (L : List Bk) (E : List Int) : (frV k L E).length ≤ E.length := by
  unfold frV
  split
  · rw [frN_len]; exact Nat.le_refl _
  · exact Nat.zero_le _
theorem fr_bad {k : Cs} {L : List Bk} {E : List Int} (h : layC k L E ≠ 0) : frV k L E = [] := by unfold frV; rw [if_neg h]
theorem fr_ok {k : Cs} {L : List Bk} {E : List Int} (h : layC k L E = 0) : frV k L E = frN k L E E.length := by unfold frV; rw [if_pos h]
set_option maxHeartbeats 4000000 in
theorem FreeOn_c (k : Cs) (A : Option Addr) (c : Nat) (A1 : Option Addr) (c1 : Nat) (L : List Bk) (A2 : Option Addr) (c2 : Nat) (E : List Int) (hok : k.ok) (hoL : OkL L) (hc1 : L.length ≤ c1) (w : World) (hC : (Kd.int .i16).C w A k.hs.length k.hs) (hL : kBk.C w A1 L.length L) (hE : (Kd.int .i64).C w A2 E.length E) :
    Calls Try.prog 80 #[k.val A c, .slice A1 L.length c1, .slice A2 E.length c2] w (RetQ w (TupI w (frV k L E) (layC k L E))) := by
  have hm := Kd.C_max hC
  have hm1 := Kd.C_max hL
  have hm2 := Kd.C_max hE
  have HLC := Aside0.mk (show Calls Try.prog 136 #[k.val A c, .slice A1 L.length c1, .slice A2 E.length c2] (w.alloc (.cells #[.int .i16 k.wd, .int .i32 k.ld, .slice A k.hs.length c] 51)) (Ret (w.alloc (.cells #[.int .i16 k.wd, .int .i32 k.ld, .slice A k.hs.length c] 51)) (.int .i64 (layC k L E))) from layoutCode_c k A c A1 c1 L A2 c2 E hok hoL hc1 _ (Kd.C_alloc hC _) (Kd.C_alloc hL _) (Kd.C_alloc hE _))
  have HC := Aside0.mk hC
  have HL := Aside0.mk hL
  have HE2 := Aside0.mk hE
  have HB := Aside0.mk (balloc (Below.refl w.heap.size w) (.cells #[.int .i16 k.wd, .int .i32 k.ld, .slice A k.hs.length c] 51))
  have HX := Aside0.mk (CsAt.box w k A c 51)
  clear hC hL hE
  simp only [Cs.val] at HLC ⊢
  by_cases hv : layC k L E = 0
  · have HP := Aside0.mk (layP_of hv)
    have HR := Aside0.mk (fr_ok hv)
    have HOK := Aside0.mk hok
    have HOL := Aside0.mk hoL
    have hn12 : E.length ≤ 12 := by have := (vCase_bd HP.out.case).n.2; have := HP.out.n; omega
    have HON := Aside0.mk (fun W h1 h2 => onShelves_c k A1 c1 L A2 c2 E HP.out hc1 W h1 h2)
    have HEA := Aside0.mk (fun w0 W (h : Below w0.heap.size w0 W) XA xc (hX : (kSh w0).C W XA (shL L E E.length).length (shL L E E.length)) => eachSh_c w0 W h XA xc (shL L E E.length) (by rw [shL_len]; exact hn12) hX 148 #[k.val A c] (frL k) ⟨_, Try.func148, rfl, rfl⟩ (fun W' _ x hx A' c' hC' => free_c k A c A' c' x HOK.out (by
      obtain ⟨i, hi⟩ := List.mem_iff_getElem?.1 hx
      rw [shL_at hi]
      exact (FitOk.of HP.out.list).sub (subL_sub L _ _)) (by
      obtain ⟨i, hi⟩ := List.mem_iff_getElem?.1 hx
      rw [shL_at hi]
      exact fun b hb => HOL.out b ((subL_sub L _ _).subset hb)) W' hC'))
    simp only [Cs.val] at HEA
    rw [hv] at HLC ⊢
    clear hv hok hoL
    obtain ⟨y0, y1, y2⟩ := HX.out
    go_enter Try.func80, Try.ntmps80
    go_wp2_with fail
    refine HLC.out.mono ?_; rintro _ w1 ⟨rfl, hb1⟩
    have HB1 := Aside0.mk (bstep HB.out hb1)
    have HX1 := Aside0.mk (HX.out.below hb1)
    clear hb1 y0 y1 y2
    obtain ⟨y0, y1, y2⟩ := HX1.out
    go_wp2_with fail
    have HYB := Aside0.mk (show ∀ w', Below w1.heap.size w1 w' → Below w1.heap.size w1 w' ∧ w'.cell? ⟨w.heap.size, 0, none⟩ = some (.int .i16 k.wd) ∧ w'.cell? ⟨w.heap.size, 1, none⟩ = some (.int .i32 k.ld) ∧ w'.cell? ⟨w.heap.size, 2, none⟩ = some (.slice A k.hs.length c) from fun w' h => ⟨h, by obtain ⟨a0, a1, a2⟩ := HX1.out.below h; exact ⟨a0, a1, a2⟩⟩)
    go_region_held3 (fun w' => Below w1.heap.size w1 w' ∧ w'.cell? ⟨w.heap.size, 0, none⟩ = some (.int .i16 k.wd) ∧ w'.cell? ⟨w.heap.size, 1, none⟩ = some (.int .i32 k.ld) ∧ w'.cell? ⟨w.heap.size, 2, none⟩ = some (.slice A k.hs.length c))
      (first | assumption | exact HYB.out _ (bdrew (Below.refl _ _)) | exact HYB.out _ (bstep (And.left (by assumption)) hq2) | exact HYB.out _ (bstep (And.left (by assumption)) hq3))
      (first | (go_at_call 140; refine (HON.out _ (Kd.C_below HL.out (HB1.out.trans ((bdrew (Below.refl _ _)).mono HB1.out.size))) (Kd.C_below HE2.out (HB1.out.trans ((bdrew (Below.refl _ _)).mono HB1.out.size)))).mono ?_; rintro _ w2 ⟨_, rfl, hq2, hv2⟩; obtain ⟨XA, xc, rfl, hxc, HXC⟩ := hv2.open; clear hv2) | (go_at_call 147; refine (HEA.out _ _ hq2 _ _ HXC.out).mono ?_; rintro _ w3 ⟨v3, rfl, hq3, hv3⟩))
    all_goals
      (have HQ := Aside0.mk (HB1.out.trans (Below.mono (show Below w1.heap.size w1 w3 from And.left (by assumption)) HB1.out.size))
       have HV3 := Aside0.mk (show (Kd.int .i64).R 2 w3 w.heap.size (fun _ => True) v3 (frV k L E) by
         rw [HR.out]
         exact Kd.R_lower hv3 (Nat.le_trans HB1.out.size hq2.size))
       clear hq2 hq3 hv3
       go_wp2_with fail
       go_ret2
       exact ⟨_, rfl, HQ.out, _, rfl, HV3.out⟩)
  · have HR := Aside0.mk (fr_bad hv)
    have bq : (layC k L E != 0) = true := by simpa using hv
    generalize layC k L E = e at HLC bq ⊢
    clear hv
    obtain ⟨y0, y1, y2⟩ := HX.out
    go_enter Try.func80, Try.ntmps80
    go_wp2_with fail
    refine HLC.out.mono ?_; rintro _ w1 ⟨rfl, hb1⟩
    have HB1 := Aside0.mk (bstep HB.out hb1)
    have HX1 := Aside0.mk (HX.out.below hb1)
    clear hb1 y0 y1 y2
    obtain ⟨y0, y1, y2⟩ := HX1.out
    go_wp2_with fail
    go_ret2
    rw [HR.out]
    exact ⟨_, rfl, HB1.out, _, rfl, Kd.R_nil _ _ _ _ _⟩
set_option maxHeartbeats 4000000 in
theorem specFreeOn_c (k : Cs) (A : Option Addr) (c : Nat) (A1 : Option Addr) (c1 : Nat) (L : List Bk) (A2 : Option Addr) (c2 : Nat) (E : List Int) (hok : k.ok) (hoL : OkL L) (hc1 : L.length ≤ c1) (w : World) (hC : (Kd.int .i16).C w A k.hs.length k.hs) (hL : kBk.C w A1 L.length L) (hE : (Kd.int .i64).C w A2 E.length E) :
    Calls Try.prog 79 #[k.val A c, .slice A1 L.length c1, .slice A2 E.length c2] w (RetQ w (TupI w (frV k L E) (layC k L E))) := by
  have hm := Kd.C_max hC
  have hm1 := Kd.C_max hL
  have hm2 := Kd.C_max hE
  have HLC := Aside0.mk (show Calls Try.prog 134 #[.pointer (some ⟨w.heap.size, 0, none⟩), .slice A1 L.length c1, .slice A2 E.length c2] (w.alloc (.cells #[.int .i16 k.wd, .int .i32 k.ld, .slice A k.hs.length c] 51)) (Ret (w.alloc (.cells #[.int .i16 k.wd, .int .i32 k.ld, .slice A k.hs.length c] 51)) (.int .i64 (layC k L E))) from l02Laid_c k A c _ A1 c1 L A2 c2 E hok hoL hc1 _ (CsAt.box w k A c 51) (Kd.C_alloc hC _) (Kd.C_alloc hL _) (Kd.C_alloc hE _))
  have HC := Aside0.mk hC
  have HL := Aside0.mk hL
  have HE2 := Aside0.mk hE
  have HB := Aside0.mk (balloc (Below.refl w.heap.size w) (.cells #[.int .i16 k.wd, .int .i32 k.ld, .slice A k.hs.length c] 51))
  have HX := Aside0.mk (CsAt.box w k A c 51)
  clear hC hL hE
  simp only [Cs.val] at HLC ⊢
  by_cases hv : layC k L E = 0
  · have HP := Aside0.mk (layP_of hv)
    have HR := Aside0.mk (fr_ok hv)
    have HOK := Aside0.mk hok
    have hn12 : E.length ≤ 12 := by have := (vCase_bd HP.out.case).n.2; have := HP.out.n; omega
    rw [hv] at HLC ⊢
    clear hv hok hoL
    obtain ⟨y0, y1, y2⟩ := HX.out
    go_enter Try.func79, Try.ntmps79
    go_wp2_with fail
    refine HLC.out.mono ?_; rintro _ w1 ⟨rfl, hb1⟩
    have HB1 := Aside0.mk (bstep HB.out hb1)
    have HX1 := Aside0.mk (HX.out.below hb1)
    clear hb1 y0 y1 y2
    obtain ⟨y0, y1, y2⟩ := HX1.out
    go_wp2_with fail
    have HR0 := Aside0.mk (R_zero (Kd.int .i64) 2 w1 w1.heap.size (fun _ => True) (Nat.le_refl _) trivial)
    have HBZ := Aside0.mk (balloc (Below.refl w1.heap.size w1) (.cells #[] 2))
    clear y0 y1 y2
    go_loopg [9, 10] E.length (fun gk v9 v10 wr => ∃ s : Nat, s + gk = E.length ∧ v10 = .int .i64 s ∧ Aside0 ((Kd.int .i64).R 2 wr w1.heap.size (fun _ => True) v9 (frN k L E s)) ∧ Aside0 (Below w1.heap.size w1 wr))
    case atStart => exact ⟨0, by omega, rfl, HR0, HBZ⟩
    case round =>
      clear HR0 HBZ
      obtain ⟨s, hk, rfl, HRR, hb⟩ := hrel
      have HK := Aside0.mk hk
      by_cases hlt : s < E.length
      · have HBr := Aside0.mk (HB1.out.trans (hb.out.mono HB1.out.size))
        obtain ⟨ad, e, rfl, hbe, hxe⟩ := at_int' (Kd.C_below HE2.out HB1.out) s hlt
        have hse := (HP.out.s s hlt)
        have ha0 := (HP.out.nn s (by omega)).1
        have HF := Aside0.mk (fun W h => (l02From_c (some ad) c2 E s (by omega) W h).mono fun e w' h => h.ret)
        have HS := Aside0.mk (frN_succ k L E s)
        have hlen := frN_len k L E s
        rw [getD_of hbe.out] at hse
        obtain ⟨⟨e1, e2⟩, hfit⟩ := hse
        have HSB := Aside0.mk (show shB L E s = subL L (bef E s) e by unfold shB; rw [getD_of hbe.out])
        rw [HSB.out] at HS
        obtain ⟨A', c', hcut, hc', hCC⟩ := cut_bk A1 c1 L (bef E s) e ha0 e1 e2 hc1
        have HCC := Aside0.mk hCC
        have HFR := Aside0.mk (fun W h1 h2 h3 => l02Free_c k A c s ⟨w.heap.size, 0, none⟩ A' c' (subL L (bef E s) e) HOK.out ((FitOk.of HP.out.list).sub (subL_sub L _ _)) (by have := HP.out.n; omega) ((vCase_bd HP.out.case).h s) W h1 h2 h3)
        rw [freeL_yes hfit] at HFR
        generalize bef E s = a at HF hcut hc' HCC e1 ha0 HFR HS
        generalize subL L a e = M at HFR hcut hc' HCC HS
        generalize frL k M = z at HFR HS
        have HXr := Aside0.mk (HX1.out.below hb.out)
        have i0 : (0 : Int) ≤ (s : Int) := by omega
        have i1 : (s : Int) < (E.length : Int) := by omega
        have HYB := Aside0.mk (show ∀ w', Below w1.heap.size w1 w' → Below w1.heap.size w1 w' ∧ w'.cell? (ad.add s) = some (.int .i64 e) from fun w' h => ⟨h, pw_cell_below h hxe⟩)
        have HWB := Aside0.mk (fun w' (h : Below w1.heap.size w1 w') => HB1.out.trans (h.mono HB1.out.size))
        clear hk hCC hfit HSB
        go_wp2_with fail
        go_region_held3 (fun w' => Below w1.heap.size w1 w' ∧ w'.cell? (ad.add s) = some (.int .i64 e))
          (first | assumption | exact HYB.out _ (bdrew hb.out) | exact HYB.out _ (bstep (And.left (by assumption)) hq1) | exact HYB.out _ (bstep (And.left (by assumption)) hq2) | exact HYB.out _ (balloc (And.left (by assumption)) _) | exact HYB.out _ hB9)
          (first | (go_at_call 135; refine (HF.out _ (Kd.C_below HE2.out (HWB.out _ (And.left (by assumption))))).mono ?_; rintro _ wq1 ⟨rfl, hq1⟩) | (go_at_call 128; refine (HFR.out _ (HX1.out.below (And.left (by assumption))) (Kd.C_below HC.out (HWB.out _ (And.left (by assumption)))) (HCC.out _ (Kd.C_below HL.out (HWB.out _ (And.left (by assumption)))))).mono ?_; rintro _ wq2 ⟨rfl, hq2⟩) | (refine Kd.R_append_step (Kd.int .i64) (w0 := w1) w1.heap.size (by rfl) (.tmp 25) (.tmp 37) 56 2 (.int .i64 0) 8 rfl Try.underlying56 info_i64 rfl (by decide) (by decide) _ (frN k L E s) z [.int .i64 z] (fun _ => True) (fun _ => False) rfl rfl rfl (fun _ h => h.elim) (fun _ _ => trivial) (Kd.R_below (Kd.R_below (Kd.R_drew HRR.out) hq1) hq2) (bstep (bstep (bdrew hb.out) hq1) hq2) (Nat.le_trans hb.out.size (Nat.le_trans hq1.size hq2.size)) (by omega) ?_; intro v9 w9 hR9 hB9 _ _))
        have HR9 := Aside0.mk hR9
        have HB9 := Aside0.mk hB9
        clear hR9 hB9 hq1 hq2 hxe hcut
        go_wp2
        go_roundg (gk - 1)
        case measure => have := HK.out; omega
        case rel => exact ⟨s + 1, by have := HK.out; omega, by go_num, ⟨by rw [HS.out]; exact HR9.out⟩, HB9⟩
      · have hs : s = E.length := by omega
        have HBr := Aside0.mk (HB1.out.trans (hb.out.mono HB1.out.size))
        have HR2 := Aside0.mk (Kd.R_lower HRR.out HB1.out.size)
        rw [hs, ← HR.out] at HR2
        clear hk hs
        go_wp2
        go_ret2
        exact ⟨_, rfl, HBr.out, _, rfl, HR2.out⟩
  · have HR := Aside0.mk (fr_bad hv)
    have bq : (layC k L E != 0) = true := by simpa using hv
    generalize layC k L E = e at HLC bq ⊢
    clear hv
    obtain ⟨y0, y1, y2⟩ := HX.out
    go_enter Try.func79, Try.ntmps79
    go_wp2_with fail
    refine HLC.out.mono ?_; rintro _ w1 ⟨rfl, hb1⟩
    have HB1 := Aside0.mk (bstep HB.out hb1)
    have HX1 := Aside0.mk (HX.out.below hb1)
    clear hb1 y0 y1 y2
    obtain ⟨y0, y1, y2⟩ := HX1.out
    go_wp2_with fail
    go_ret2
    rw [HR.out]
    exact ⟨_, rfl, balloc HB1.out _, _, rfl, R_zero _ _ _ _ _ HB1.out.size trivial⟩
end Go.Proofs.Ytdippdkneeocfaa
