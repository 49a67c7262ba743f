/- ShelfOfClass: the program's and the reference's. -/
import Derived.Test.YtdippdkneeocfaaPos
import Derived.StillTailTactics
import Derived.Still
import Derived.Deep.QuietTactic
import Derived.BigQuiet
namespace Go.Proofs.Ytdippdkneeocfaa
open Go.RowKit Go.Proofs.YtdippdkneeocfaaW.PrintWords Go.Proofs.YtdippdkneeocfaaW.PrintMore
set_option linter.unusedVariables false
set_option linter.unusedSimpArgs false
set_option maxRecDepth 100000

theorem sh_mono (E : List Int) {i j : Int} (h : i ≤ j) : shOf E i ≤ shOf E j := by
  unfold shOf
  induction E with
  | nil => exact Nat.le_refl _
  | cons e E ih =>
    rw [List.findIdx_cons, List.findIdx_cons]
    by_cases h1 : i < e
    · rw [decide_eq_true h1]; exact Nat.zero_le _
    · rw [decide_eq_false h1, decide_eq_false (by omega)]
      simpa using ih
/-- The first and the last shelf with a book of a class among the first n books. -/
def scP (L : List Bk) (E : List Int) (cl : Int) : Nat → Int × Int
  | 0 => (-1, -1)
  | n + 1 => if (L.getD n zBk).c = cl then (if (scP L E cl n).1 < 0 then ((shOf E n : Nat) : Int) else (scP L E cl n).1, ((shOf E n : Nat) : Int)) else scP L E cl n
theorem scP_no {L : List Bk} {E : List Int} {cl : Int} {n : Nat} {b : Bk} (h : L[n]? = some b) (hc : ¬ b.c = cl) : scP L E cl (n + 1) = scP L E cl n := by
  rw [scP, List.getD_eq_getElem?_getD, h]; exact if_neg hc
theorem scP_yes {L : List Bk} {E : List Int} {cl : Int} {n : Nat} {b : Bk} (h : L[n]? = some b) (hc : b.c = cl) : scP L E cl (n + 1) = (if (scP L E cl n).1 < 0 then ((shOf E n : Nat) : Int) else (scP L E cl n).1, ((shOf E n : Nat) : Int)) := by
  rw [scP, List.getD_eq_getElem?_getD, h]; exact if_pos hc
theorem scP_inv (L : List Bk) (E : List Int) (cl : Int) (n : Nat) : (scP L E cl n).1 = -1 ∧ (scP L E cl n).2 = -1 ∨ 0 ≤ (scP L E cl n).1 ∧ (scP L E cl n).1 ≤ (scP L E cl n).2 ∧ ∃ i : Nat, i < n ∧ (scP L E cl n).2 = (shOf E i : Nat) := by
  induction n with
  | zero => left; exact ⟨rfl, rfl⟩
  | succ n ih =>
    rw [scP]
    by_cases hc : (L.getD n zBk).c = cl
    · rw [if_pos hc]
      right
      rcases ih with ⟨h1, h2⟩ | ⟨h1, h2, i, hi, h3⟩
      · rw [h1, if_pos (by decide)]
        exact ⟨by simp, by simp, n, by omega, rfl⟩
      · rw [if_neg (by omega)]
        have := sh_mono E (i := (i : Int)) (j := (n : Int)) (by omega)
        exact ⟨h1, by simp only []; omega, n, by omega, rfl⟩
    · rw [if_neg hc]
      rcases ih with h | ⟨h1, h2, i, hi, h3⟩
      · exact .inl h
      · exact .inr ⟨h1, h2, i, by omega, h3⟩
theorem scP_le (L : List Bk) (E : List Int) (cl : Int) (n : Nat) : -1 ≤ (scP L E cl n).1 ∧ (scP L E cl n).1 ≤ (scP L E cl n).2 ∧ (scP L E cl n).2 ≤ E.length := by
  rcases scP_inv L E cl n with ⟨h1, h2⟩ | ⟨h1, h2, i, hi, h3⟩
  · omega
  · have : shOf E i ≤ E.length := List.findIdx_le_length
    omega
def scC (k : Cs) (L : List Bk) (E : List Int) (cl : Int) : Int := if layC k L E = 0 then (if (scP L E cl L.length).2 < 0 then 6 else 0) else layC k L E
def scF (k : Cs) (L : List Bk) (E : List Int) (cl : Int) : Int := if scC k L E cl = 0 then (scP L E cl L.length).1 else 0
def scL (k : Cs) (L : List Bk) (E : List Int) (cl : Int) : Int := if scC k L E cl = 0 then (scP L E cl L.length).2 else 0
theorem sc_bad {k : Cs} {L : List Bk} {E : List Int} {cl e : Int} (h : scC k L E cl = e) (he : e ≠ 0) : scF k L E cl = 0 ∧ scL k L E cl = 0 ∧ scC k L E cl = e := ⟨by unfold scF; rw [h, if_neg he], by unfold scL; rw [h, if_neg he], h⟩
theorem sc_none {k : Cs} {L : List Bk} {E : List Int} {cl f l : Int} (h : layC k L E = 0) (hp : scP L E cl L.length = (f, l)) (hl : l < 0) : scF k L E cl = 0 ∧ scL k L E cl = 0 ∧ scC k L E cl = 6 := sc_bad (by unfold scC; rw [if_pos h, hp]; exact if_pos hl) (by decide)
theorem sc_some {k : Cs} {L : List Bk} {E : List Int} {cl f l : Int} (h : layC k L E = 0) (hp : scP L E cl L.length = (f, l)) (hl : ¬ l < 0) : scF k L E cl = f ∧ scL k L E cl = l ∧ scC k L E cl = 0 := by
  have h1 : scC k L E cl = 0 := by unfold scC; rw [if_pos h, hp]; exact if_neg hl
  exact ⟨by unfold scF; rw [h1, if_pos rfl, hp], by unfold scL; rw [h1, if_pos rfl, hp], h1⟩
theorem l00Min_c (x y : Int) (h : x ≤ y) (w : World) : Calls Try.prog 142 #[.int .i64 x, .int .i64 y] w (RetS w (.int .i64 x)) := by
  go_enter Try.func142, Try.ntmps142
  go_wp2
  all_goals (go_ret; exact ⟨ret_int (by omega), rfl⟩)
set_option maxHeartbeats 4000000 in
theorem ShelfOfClass_c (k : Cs) (A : Option Addr) (c : Nat) (A1 : Option Addr) (c1 : Nat) (L : List Bk) (A2 : Option Addr) (c2 : Nat) (E : List Int) (cl : Int) (hok : k.ok) (hoL : OkL L) (hc1 : L.length ≤ c1) (w : World) (hC : (Kd.int .i16).C w A k.hs.length k.hs) (hL : kBk.C w A1 L.length L) (hE : (Kd.int .i64).C w A2 E.length E) :
    Calls Try.prog 71 #[k.val A c, .slice A1 L.length c1, .slice A2 E.length c2, .int .i64 cl] w (Ret w (.tuple #[.int .i64 (scF k L E cl), .int .i64 (scL k L E cl), .int .i64 (scC k L E cl)])) := by
  have hm := Kd.C_max hC
  have hm1 := Kd.C_max hL
  have hm2 := Kd.C_max hE
  have HLC := Aside0.mk (show Calls Try.prog 136 #[k.val A c, .slice A1 L.length c1, .slice A2 E.length c2] (w.alloc (.cells #[.int .i16 k.wd, .int .i32 k.ld, .slice A k.hs.length c] 51)) (Ret (w.alloc (.cells #[.int .i16 k.wd, .int .i32 k.ld, .slice A k.hs.length c] 51)) (.int .i64 (layC k L E))) from layoutCode_c k A c A1 c1 L A2 c2 E hok hoL hc1 _ (Kd.C_alloc hC _) (Kd.C_alloc hL _) (Kd.C_alloc hE _))
  have HC := Aside0.mk hC
  have HL := Aside0.mk hL
  have HE2 := Aside0.mk hE
  have HB := Aside0.mk (balloc (Below.refl w.heap.size w) (.cells #[.int .i16 k.wd, .int .i32 k.ld, .slice A k.hs.length c] 51))
  have HX := Aside0.mk (CsAt.box w k A c 51)
  clear hC hL hE
  simp only [Cs.val] at HLC ⊢
  by_cases hv : layC k L E = 0
  · have HP := Aside0.mk (layP_of hv)
    have HV := Aside0.mk hv
    have HS := Aside0.mk (fun W h b => shelfOf_c A2 c2 E b W h)
    have HOL := Aside0.mk hoL
    rw [hv] at HLC
    clear hv hoL
    obtain ⟨y0, y1, y2⟩ := HX.out
    go_enter Try.func71, Try.ntmps71
    go_wp2_with fail
    refine HLC.out.mono ?_; rintro _ w1 ⟨rfl, hb1⟩
    have HB1 := Aside0.mk (bstep HB.out hb1)
    have HX1 := Aside0.mk (HX.out.below hb1)
    clear hb1 y0 y1 y2
    obtain ⟨y0, y1, y2⟩ := HX1.out
    go_wp2_with fail
    clear y0 y1 y2
    go_loopg [12, 13, 25] L.length (fun gk v12 v13 v25 wr => ∃ n : Nat, ∃ f l : Int, n + gk = L.length ∧ v25 = .int .i64 n ∧ v12 = .int .i64 f ∧ v13 = .int .i64 l ∧ Aside0 (scP L E cl n = (f, l)) ∧ Aside0 (Below w.heap.size w wr))
    case atStart => exact ⟨0, -1, -1, by omega, rfl, rfl, rfl, ⟨rfl⟩, HB1⟩
    case round =>
      obtain ⟨n, f, l, hk, rfl, rfl, rfl, hp, hb⟩ := hrel
      have HK := Aside0.mk hk
      have hbd := scP_le L E cl n
      rw [hp.out] at hbd
      simp only [] at hbd
      obtain ⟨f1, f2, f3⟩ := hbd
      by_cases hlt : n < L.length
      · obtain ⟨ad, b, rfl, hbk, x0, x1, x2, x3, x4, x5, x6, x7⟩ := at_bk (Kd.C_below HL.out hb.out) n hlt
        obtain ⟨⟨u1, u2⟩, _⟩ := HOL.out b (mem_of hbk.out)
        have i0 : (0 : Int) ≤ (n : Int) := by omega
        have i1 : (n : Int) < (L.length : Int) := by omega
        have HBb := Aside0.mk (balloc hb.out (.cells #[.int .i16 b.c, .int .u8 b.m0, .int .u8 b.m1, .int .u8 b.m2, .int .i16 b.v, .int .i16 b.wd, .int .i16 b.h, .int .i16 b.wt] 27))
        clear hk
        by_cases hcl : b.c = cl
        · have HN := Aside0.mk (scP_yes (E := E) hbk.out hcl)
          rw [hp.out] at HN
          have d1 : (b.c == cl) = true := by simp [hcl]
          clear hcl
          go_wp2_with fail
          refine (HS.out _ (Kd.C_below HE2.out HBb.out) _).mono ?_; rintro _ w3 ⟨rfl, hb3⟩
          have HB3 := Aside0.mk (bstep HBb.out hb3)
          clear hb3 x0 x1 x2 x3 x4 x5 x6 x7
          by_cases hf : f < 0
          · have HN2 := Aside0.mk (show scP L E cl (n + 1) = (((shOf E n : Nat) : Int), ((shOf E n : Nat) : Int)) by rw [HN.out]; simp only [if_pos hf])
            clear HN
            go_wp2_with fail
            go_roundg (gk - 1)
            case measure => have := HK.out; omega
            case rel => exact ⟨n + 1, _, _, by have := HK.out; omega, by go_num, rfl, rfl, HN2, HB3⟩
          · have HN2 := Aside0.mk (show scP L E cl (n + 1) = (f, ((shOf E n : Nat) : Int)) by rw [HN.out]; simp only [if_neg hf])
            clear HN
            go_wp2_with fail
            go_roundg (gk - 1)
            case measure => have := HK.out; omega
            case rel => exact ⟨n + 1, f, _, by have := HK.out; omega, by go_num, rfl, rfl, HN2, HB3⟩
        · have HN := Aside0.mk (scP_no (E := E) hbk.out hcl)
          rw [hp.out] at HN
          have d1 : (b.c == cl) = false := by simpa using hcl
          clear hcl
          go_wp2_with fail
          go_roundg (gk - 1)
          case measure => have := HK.out; omega
          case rel => exact ⟨n + 1, f, l, by have := HK.out; omega, by go_num, rfl, rfl, HN, HBb⟩
      · have hn : n = L.length := by omega
        have HPP := Aside0.mk (show scP L E cl L.length = (f, l) by rw [← hn]; exact hp.out)
        have HI := Aside0.mk (scP_inv L E cl L.length)
        rw [HPP.out] at HI
        clear hk hn
        by_cases hf : f < 0
        · have HR := Aside0.mk (sc_none (k := k) HV.out HPP.out (by have := HI.out; simp only [] at this; omega))
          go_wp2
          go_ret3
          exact ⟨ret_three HR.out.1.symm HR.out.2.1.symm HR.out.2.2.symm, hb.out⟩
        · have HR := Aside0.mk (sc_some (k := k) HV.out HPP.out (by omega))
          go_wp2
          go_ret3
          exact ⟨ret_three HR.out.1.symm HR.out.2.1.symm HR.out.2.2.symm, hb.out⟩
  · have HR := Aside0.mk (sc_bad (k := k) (L := L) (E := E) (cl := cl) (e := layC k L E) (by unfold scC; rw [if_neg hv]) hv)
    have bq : (layC k L E != 0) = true := by simpa using hv
    generalize layC k L E = e at HLC HR bq
    clear hv
    obtain ⟨y0, y1, y2⟩ := HX.out
    go_enter Try.func71, Try.ntmps71
    go_wp2_with fail
    refine HLC.out.mono ?_; rintro _ w1 ⟨rfl, hb1⟩
    have HB1 := Aside0.mk (bstep HB.out hb1)
    have HX1 := Aside0.mk (HX.out.below hb1)
    clear hb1 y0 y1 y2
    obtain ⟨y0, y1, y2⟩ := HX1.out
    go_wp2_with fail
    go_ret3
    exact ⟨ret_three HR.out.1.symm HR.out.2.1.symm HR.out.2.2.symm, HB1.out⟩
set_option maxHeartbeats 4000000 in
theorem specShelfOfClass_c (k : Cs) (A : Option Addr) (c : Nat) (A1 : Option Addr) (c1 : Nat) (L : List Bk) (A2 : Option Addr) (c2 : Nat) (E : List Int) (cl : Int) (hok : k.ok) (hoL : OkL L) (hc1 : L.length ≤ c1) (w : World) (hC : (Kd.int .i16).C w A k.hs.length k.hs) (hL : kBk.C w A1 L.length L) (hE : (Kd.int .i64).C w A2 E.length E) :
    Calls Try.prog 70 #[k.val A c, .slice A1 L.length c1, .slice A2 E.length c2, .int .i64 cl] w (Ret w (.tuple #[.int .i64 (scF k L E cl), .int .i64 (scL k L E cl), .int .i64 (scC k L E cl)])) := by
  have hm := Kd.C_max hC
  have hm1 := Kd.C_max hL
  have hm2 := Kd.C_max hE
  have HLC := Aside0.mk (show Calls Try.prog 134 #[.pointer (some ⟨w.heap.size, 0, none⟩), .slice A1 L.length c1, .slice A2 E.length c2] (w.alloc (.cells #[.int .i16 k.wd, .int .i32 k.ld, .slice A k.hs.length c] 51)) (Ret (w.alloc (.cells #[.int .i16 k.wd, .int .i32 k.ld, .slice A k.hs.length c] 51)) (.int .i64 (layC k L E))) from l02Laid_c k A c _ A1 c1 L A2 c2 E hok hoL hc1 _ (CsAt.box w k A c 51) (Kd.C_alloc hC _) (Kd.C_alloc hL _) (Kd.C_alloc hE _))
  have HC := Aside0.mk hC
  have HL := Aside0.mk hL
  have HE2 := Aside0.mk hE
  have HB := Aside0.mk (balloc (Below.refl w.heap.size w) (.cells #[.int .i16 k.wd, .int .i32 k.ld, .slice A k.hs.length c] 51))
  have HX := Aside0.mk (CsAt.box w k A c 51)
  clear hC hL hE
  simp only [Cs.val] at HLC ⊢
  by_cases hv : layC k L E = 0
  · have HP := Aside0.mk (layP_of hv)
    have HV := Aside0.mk hv
    have HS := Aside0.mk (fun W h (b : Int) h1 h2 => l02Shelf_c A2 c2 E b W h (HP.out.any (b := b) h2 h1))
    have HOL := Aside0.mk hoL
    rw [hv] at HLC
    clear hv hoL
    obtain ⟨y0, y1, y2⟩ := HX.out
    go_enter Try.func70, Try.ntmps70
    go_wp2_with fail
    refine HLC.out.mono ?_; rintro _ w1 ⟨rfl, hb1⟩
    have HB1 := Aside0.mk (bstep HB.out hb1)
    have HX1 := Aside0.mk (HX.out.below hb1)
    clear hb1 y0 y1 y2
    obtain ⟨y0, y1, y2⟩ := HX1.out
    go_wp2_with fail
    clear y0 y1 y2
    go_loopg [12, 13, 14] L.length (fun gk v12 v13 v25 wr => ∃ n : Nat, ∃ f l : Int, n + gk = L.length ∧ v25 = .int .i64 n ∧ v12 = .int .i64 f ∧ v13 = .int .i64 l ∧ Aside0 (scP L E cl n = (f, l)) ∧ Aside0 (Below w.heap.size w wr))
    case atStart => exact ⟨0, -1, -1, by omega, rfl, rfl, rfl, ⟨rfl⟩, HB1⟩
    case round =>
      obtain ⟨n, f, l, hk, rfl, rfl, rfl, hp, hb⟩ := hrel
      have HK := Aside0.mk hk
      have hbd := scP_le L E cl n
      rw [hp.out] at hbd
      simp only [] at hbd
      obtain ⟨f1, f2, f3⟩ := hbd
      by_cases hlt : n < L.length
      · obtain ⟨ad, b, rfl, hbk, x0, x1, x2, x3, x4, x5, x6, x7⟩ := at_bk (Kd.C_below HL.out hb.out) n hlt
        obtain ⟨⟨u1, u2⟩, _⟩ := HOL.out b (mem_of hbk.out)
        have i0 : (0 : Int) ≤ (n : Int) := by omega
        have i1 : (n : Int) < (L.length : Int) := by omega
        clear hk
        by_cases hcl : b.c = cl
        · have HN := Aside0.mk (scP_yes (E := E) hbk.out hcl)
          rw [hp.out] at HN
          have d1 : (b.c == cl) = true := by simp [hcl]
          have HSS := Aside0.mk (HS.out _ (Kd.C_below HE2.out hb.out) n i0 i1)
          clear hcl
          go_wp2_with fail
          refine HSS.out.mono ?_; rintro _ w3 ⟨rfl, rfl⟩
          clear x0 x1 x2 x3 x4 x5 x6 x7 HSS
          by_cases hf : f < 0
          · have HN2 := Aside0.mk (show scP L E cl (n + 1) = (((shOf E n : Nat) : Int), ((shOf E n : Nat) : Int)) by rw [HN.out]; simp only [if_pos hf])
            clear HN
            go_wp2_with fail
            go_roundg (gk - 1)
            case measure => have := HK.out; omega
            case rel => exact ⟨n + 1, _, _, by have := HK.out; omega, by go_num, rfl, rfl, HN2, hb⟩
          · have HN2 := Aside0.mk (show scP L E cl (n + 1) = (f, ((shOf E n : Nat) : Int)) by rw [HN.out]; simp only [if_neg hf])
            clear HN
            go_wp2_with fail
            go_roundg (gk - 1)
            case measure => have := HK.out; omega
            case rel => exact ⟨n + 1, f, _, by have := HK.out; omega, by go_num, rfl, rfl, HN2, hb⟩
        · have HN := Aside0.mk (scP_no (E := E) hbk.out hcl)
          rw [hp.out] at HN
          have d1 : (b.c == cl) = false := by simpa using hcl
          clear hcl
          go_wp2_with fail
          go_roundg (gk - 1)
          case measure => have := HK.out; omega
          case rel => exact ⟨n + 1, f, l, by have := HK.out; omega, by go_num, rfl, rfl, HN, hb⟩
      · have hn : n = L.length := by omega
        have HPP := Aside0.mk (show scP L E cl L.length = (f, l) by rw [← hn]; exact hp.out)
        clear hk hn
        by_cases hl : l < 0
        · have HR := Aside0.mk (sc_none (k := k) HV.out HPP.out hl)
          go_wp2
          go_ret3
          exact ⟨ret_three HR.out.1.symm HR.out.2.1.symm HR.out.2.2.symm, hb.out⟩
        · have HR := Aside0.mk (sc_some (k := k) HV.out HPP.out hl)
          go_wp2_with fail
          refine (l00Min_c f l f2 _).mono ?_; rintro _ w3 ⟨rfl, rfl⟩
          go_wp2_with fail
          go_ret3
          exact ⟨ret_three HR.out.1.symm HR.out.2.1.symm HR.out.2.2.symm, hb.out⟩
  · have HR := Aside0.mk (sc_bad (k := k) (L := L) (E := E) (cl := cl) (e := layC k L E) (by unfold scC; rw [if_neg hv]) hv)
    have bq : (layC k L E != 0) = true := by simpa using hv
    generalize layC k L E = e at HLC HR bq
    clear hv
    obtain ⟨y0, y1, y2⟩ := HX.out
    go_enter Try.func70, Try.ntmps70
    go_wp2_with fail
    refine HLC.out.mono ?_; rintro _ w1 ⟨rfl, hb1⟩
    have HB1 := Aside0.mk (bstep HB.out hb1)
    have HX1 := Aside0.mk (HX.out.below hb1)
    clear hb1 y0 y1 y2
    obtain ⟨y0, y1, y2⟩ := HX1.out
    go_wp2_with fail
    go_ret3
    exact ⟨ret_three HR.out.1.symm HR.out.2.1.symm HR.out.2.2.symm, HB1.out⟩
end Go.Proofs.Ytdippdkneeocfaa
