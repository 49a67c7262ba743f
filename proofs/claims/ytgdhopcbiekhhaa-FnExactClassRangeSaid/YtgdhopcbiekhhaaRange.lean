/- ClassRange: the program's and the reference's. -/
import Derived.Test.YtgdhopcbiekhhaaPlace
import Derived.Test.YtgdhopcbiekhhaaCnt
import Derived.StillTailTactics
import Derived.Still
namespace Go.Proofs.Ytgdhopcbiekhhaa
open Go.RowKit Go.Proofs.YtgdhopcbiekhhaaW.PrintWords Go.Proofs.YtgdhopcbiekhhaaW.PrintMore
set_option linter.unusedVariables false
set_option linter.unusedSimpArgs false
set_option maxRecDepth 100000

theorem within64_c (n lo hi : Int) (w : World) : Calls Try.prog 87 #[.int .i64 n, .int .i64 lo, .int .i64 hi] w (RetS w (.bool (inR n lo hi))) := by
  go_enter Try.func87, Try.ntmps87
  go_wp2
  all_goals (go_ret; refine ⟨ret_bool ?_, rfl⟩; unfold inR; rw [Bool.eq_iff_iff]; simp; omega)
theorem rangeClo1_c (low : Int) (x : Bk) (g : Nat) (w : World) (h0 : 0 ≤ x.c) (h9 : x.c ≤ 999) (hc : w.cell? ⟨g, 0, none⟩ = some (.int .i64 low)) (hg : g < w.heap.size) : Calls Try.prog 128 #[x.val, .pointer (some ⟨g, 0, none⟩)] w (Ret w (.bool (decide (low ≤ x.c)))) := by
  simp only [Bk.val]
  go_enter Try.func128, Try.ntmps128
  go_wp2
  all_goals (go_ret; exact ⟨ret_bool (by simp; try omega), balloc (Below.refl _ _) _⟩)
theorem rangeClo2_c (high : Int) (x : Bk) (g : Nat) (w : World) (h0 : 0 ≤ x.c) (h9 : x.c ≤ 999) (hc : w.cell? ⟨g, 0, none⟩ = some (.int .i64 high)) (hg : g < w.heap.size) : Calls Try.prog 129 #[x.val, .pointer (some ⟨g, 0, none⟩)] w (Ret w (.bool (decide (high + 1 ≤ x.c)))) := by
  simp only [Bk.val]
  go_enter Try.func129, Try.ntmps129
  go_wp2
  all_goals (go_ret; refine ⟨ret_bool ?_, balloc (Below.refl _ _) _⟩; rw [decide_eq_decide]; omega)
def okRange (low high : Int) : Bool := inR low 0 999 && (inR high 0 999 && decide (low ≤ high))
def crC (L : List Bk) (low high : Int) : Int := if sCode L = 0 then (if okRange low high = true then 0 else 2) else sCode L
def crF (L : List Bk) (low high : Int) : Int := if crC L low high = 0 then (L.findIdx (fun b => decide (low ≤ b.c)) : Nat) else 0
def crT (L : List Bk) (low high : Int) : Int := if crC L low high = 0 then (L.findIdx (fun b => decide (high + 1 ≤ b.c)) : Nat) else 0
theorem cr_bad {L : List Bk} {low high e : Int} (h : crC L low high = e) (he : e ≠ 0) : crF L low high = 0 ∧ crT L low high = 0 ∧ crC L low high = e := ⟨by unfold crF; rw [h, if_neg he], by unfold crT; rw [h, if_neg he], h⟩
theorem cr_ok {L : List Bk} {low high : Int} (h : crC L low high = 0) : crF L low high = (L.findIdx (fun b => decide (low ≤ b.c)) : Nat) ∧ crT L low high = (L.findIdx (fun b => decide (high + 1 ≤ b.c)) : Nat) ∧ crC L low high = 0 := ⟨by unfold crF; rw [h, if_pos rfl], by unfold crT; rw [h, if_pos rfl], h⟩
set_option maxHeartbeats 4000000 in
theorem ClassRange_c (A : Option Addr) (c : Nat) (L : List Bk) (low high : Int) (w : World) (hL : kBk.C w A L.length L) :
    Calls Try.prog 76 #[.slice A L.length c, .int .i64 low, .int .i64 high] w (Ret w (.tuple #[.int .i64 (crF L low high), .int .i64 (crT L low high), .int .i64 (crC L low high)])) := by
  have hm := Kd.C_max hL
  have HL := Aside0.mk hL
  have HB := Aside0.mk (balloc (balloc (Below.refl w.heap.size w) (.cells #[.int .i64 low] 2)) (.cells #[.int .i64 high] 2))
  have H1 := Aside0.mk (blk_alloc (blk_new w (.cells #[.int .i64 low] 2)) (.cells #[.int .i64 high] 2))
  have h2 := blk_new (w.alloc (.cells #[.int .i64 low] 2)) (.cells #[.int .i64 high] 2)
  rw [World.size_alloc] at h2
  have H2 := Aside0.mk h2
  have hs0 := sorted1_c A c L _ (Kd.C_below hL HB.out)
  simp only [World.size_alloc] at hs0
  have HS := Aside0.mk hs0
  clear hL h2 hs0
  by_cases hs : sCode L = 0
  · have HCL := Aside0.mk (vBooks_class (sCode_zero.1 hs).1)
    rw [hs] at HS
    cases g1 : inR low 0 999
    · have HR := Aside0.mk (cr_bad (L := L) (low := low) (high := high) (e := 2) (by unfold crC okRange; rw [if_pos hs, g1]; rfl) (by decide))
      have HW := Aside0.mk (fun W => within64_c low 0 999 W)
      rw [g1] at HW
      clear g1 hs
      go_enter Try.func76, Try.ntmps76
      go_wp2_with fail
      refine HS.out.mono ?_; rintro _ w1 ⟨rfl, hb1⟩
      have HB1 := Aside0.mk (bstep (balloc HB.out _) hb1)
      have c1 := blk_cell (blk_below (blk_alloc H1.out (.cells #[.slice A L.length c] 40)) hb1) 0
      have c2 := blk_cell (blk_below (blk_alloc H2.out (.cells #[.slice A L.length c] 40)) hb1) 0
      simp only [List.getElem?_toArray, List.getElem?_cons_zero] at c1 c2
      clear hb1
      go_wp2_with fail
      refine (HW.out _).mono ?_; rintro _ w2 ⟨rfl, rfl⟩
      go_wp2_with fail
      go_ret3
      exact ⟨ret_three HR.out.1.symm HR.out.2.1.symm HR.out.2.2.symm, HB1.out⟩
    · have HW := Aside0.mk (fun W => within64_c low 0 999 W)
      rw [g1] at HW
      cases g2 : inR high 0 999
      · have HR := Aside0.mk (cr_bad (L := L) (low := low) (high := high) (e := 2) (by unfold crC okRange; rw [if_pos hs, g1, g2]; rfl) (by decide))
        have HV := Aside0.mk (fun W => within64_c high 0 999 W)
        rw [g2] at HV
        clear g1 g2 hs
        go_enter Try.func76, Try.ntmps76
        go_wp2_with fail
        refine HS.out.mono ?_; rintro _ w1 ⟨rfl, hb1⟩
        have HB1 := Aside0.mk (bstep (balloc HB.out _) hb1)
        have c1 := blk_cell (blk_below (blk_alloc H1.out (.cells #[.slice A L.length c] 40)) hb1) 0
        have c2 := blk_cell (blk_below (blk_alloc H2.out (.cells #[.slice A L.length c] 40)) hb1) 0
        simp only [List.getElem?_toArray, List.getElem?_cons_zero] at c1 c2
        clear hb1
        go_wp2_with fail
        refine (HW.out _).mono ?_; rintro _ w2 ⟨rfl, rfl⟩
        go_wp2_with fail
        refine (HV.out _).mono ?_; rintro _ w2 ⟨rfl, rfl⟩
        go_wp2_with fail
        go_ret3
        exact ⟨ret_three HR.out.1.symm HR.out.2.1.symm HR.out.2.2.symm, HB1.out⟩
      · have HV := Aside0.mk (fun W => within64_c high 0 999 W)
        rw [g2] at HV
        by_cases g3 : low ≤ high
        · have HR := Aside0.mk (cr_ok (L := L) (low := low) (high := high) (by unfold crC okRange; rw [if_pos hs, g1, g2, decide_eq_true g3]; rfl))
          clear g1 g2 hs
          go_enter Try.func76, Try.ntmps76
          go_wp2_with fail
          refine HS.out.mono ?_; rintro _ w1 ⟨rfl, hb1⟩
          have HB1 := Aside0.mk (bstep (balloc HB.out _) hb1)
          have K1 := Aside0.mk (blk_below (blk_alloc H1.out (.cells #[.slice A L.length c] 40)) hb1)
          have K2 := Aside0.mk (blk_below (blk_alloc H2.out (.cells #[.slice A L.length c] 40)) hb1)
          have c1 := blk_cell K1.out 0
          have c2 := blk_cell K2.out 0
          simp only [List.getElem?_toArray, List.getElem?_cons_zero] at c1 c2
          clear hb1
          go_wp2_with fail
          refine (HW.out _).mono ?_; rintro _ w2 ⟨rfl, rfl⟩
          go_wp2_with fail
          refine (HV.out _).mono ?_; rintro _ w2 ⟨rfl, rfl⟩
          go_wp2_with fail
          refine (firstOf_c A c L 128 #[.pointer (some ⟨w.heap.size, 0, none⟩)] (fun b => decide (low ≤ b.c)) w1 (Kd.C_below HL.out HB1.out) ⟨_, Try.func128, rfl, rfl⟩ (fun W hW x hx => rangeClo1_c low x _ W (HCL.out x hx).1 (HCL.out x hx).2 ((blk_cell (blk_below K1.out hW) 0).trans rfl) (blk_lt (blk_below K1.out hW)))).mono ?_; rintro _ w3 ⟨rfl, hb3⟩
          have HB3 := Aside0.mk (bstep HB1.out hb3)
          have K3 := Aside0.mk (blk_below K2.out hb3)
          clear hb3 c1 c2
          go_wp2_with fail
          refine (firstOf_c A c L 129 #[.pointer (some ⟨w.heap.size + 1, 0, none⟩)] (fun b => decide (high + 1 ≤ b.c)) w3 (Kd.C_below HL.out HB3.out) ⟨_, Try.func129, rfl, rfl⟩ (fun W hW x hx => rangeClo2_c high x _ W (HCL.out x hx).1 (HCL.out x hx).2 ((blk_cell (blk_below K3.out hW) 0).trans rfl) (blk_lt (blk_below K3.out hW)))).mono ?_; rintro _ w4 ⟨rfl, hb4⟩
          have HB4 := Aside0.mk (bstep HB3.out hb4)
          clear hb4
          go_wp2_with fail
          go_ret3
          exact ⟨ret_three HR.out.1.symm HR.out.2.1.symm HR.out.2.2.symm, HB4.out⟩
        · have HR := Aside0.mk (cr_bad (L := L) (low := low) (high := high) (e := 2) (by unfold crC okRange; rw [if_pos hs, g1, g2, decide_eq_false g3]; rfl) (by decide))
          clear g1 g2 hs
          go_enter Try.func76, Try.ntmps76
          go_wp2_with fail
          refine HS.out.mono ?_; rintro _ w1 ⟨rfl, hb1⟩
          have HB1 := Aside0.mk (bstep (balloc HB.out _) hb1)
          have c1 := blk_cell (blk_below (blk_alloc H1.out (.cells #[.slice A L.length c] 40)) hb1) 0
          have c2 := blk_cell (blk_below (blk_alloc H2.out (.cells #[.slice A L.length c] 40)) hb1) 0
          simp only [List.getElem?_toArray, List.getElem?_cons_zero] at c1 c2
          clear hb1
          go_wp2_with fail
          refine (HW.out _).mono ?_; rintro _ w2 ⟨rfl, rfl⟩
          go_wp2_with fail
          refine (HV.out _).mono ?_; rintro _ w2 ⟨rfl, rfl⟩
          go_wp2_with fail
          go_ret3
          exact ⟨ret_three HR.out.1.symm HR.out.2.1.symm HR.out.2.2.symm, HB1.out⟩
  · have HR := Aside0.mk (cr_bad (L := L) (low := low) (high := high) (e := sCode L) (by unfold crC; rw [if_neg hs]) hs)
    have hq : (sCode L != 0) = true := by simpa using hs
    clear hs
    go_enter Try.func76, Try.ntmps76
    go_wp2_with fail
    refine HS.out.mono ?_; rintro _ w1 ⟨rfl, hb1⟩
    have HB1 := Aside0.mk (bstep (balloc HB.out _) hb1)
    clear hb1
    go_wp2_with fail
    go_ret3
    exact ⟨ret_three HR.out.1.symm HR.out.2.1.symm HR.out.2.2.symm, HB1.out⟩
/-- How many of the first k have a lower class. -/
def cntF (L : List Bk) (n : Int) (k : Nat) : Nat := ((L.take k).filter (fun b => decide (b.c < n))).length
theorem cntF_yes {L : List Bk} {n : Int} {k : Nat} {b : Bk} (h : L[k]? = some b) (hc : b.c < n) : cntF L n (k + 1) = cntF L n k + 1 := by
  unfold cntF
  rw [take_snoc h, List.filter_append, List.length_append, List.filter_cons_of_pos (by simpa using hc)]
  rfl
theorem cntF_no {L : List Bk} {n : Int} {k : Nat} {b : Bk} (h : L[k]? = some b) (hc : ¬ b.c < n) : cntF L n (k + 1) = cntF L n k := by
  unfold cntF
  rw [take_snoc h, List.filter_append, List.length_append, List.filter_cons_of_neg (by simpa using hc)]
  rfl
theorem cntF_le (L : List Bk) (n : Int) (k : Nat) : cntF L n k ≤ k := by
  unfold cntF
  exact Nat.le_trans (List.length_filter_le _ _) (by rw [List.length_take]; omega)
theorem cntF_all {L : List Bk} (hu : Srt.Up ltU L) (n : Int) {k : Nat} (h : L.length ≤ k) : cntF L n k = L.findIdx (fun b => decide (n ≤ b.c)) := by
  unfold cntF
  rw [List.take_of_length_le h]
  exact count_findIdx hu n
set_option maxHeartbeats 8000000 in
theorem specClassRange_c (A : Option Addr) (c : Nat) (L : List Bk) (low high : Int) (hok : OkL L) (w : World) (hL : kBk.C w A L.length L) :
    Calls Try.prog 75 #[.slice A L.length c, .int .i64 low, .int .i64 high] w (Ret w (.tuple #[.int .i64 (crF L low high), .int .i64 (crT L low high), .int .i64 (crC L low high)])) := by
  have hm := Kd.C_max hL
  have HL := Aside0.mk hL
  have HO := Aside0.mk hok
  have HS := Aside0.mk (l01Asked_c A c L hok w hL)
  clear hL hok
  by_cases hs : sCode L = 0
  · have hvs := sCode_zero.1 hs
    have HU := Aside0.mk (isS_up hvs.2)
    have HN := Aside0.mk (vBooks_len hvs.1)
    rw [hs] at HS
    clear hvs
    cases g1 : inR low 0 999
    · have HR := Aside0.mk (cr_bad (L := L) (low := low) (high := high) (e := 2) (by unfold crC okRange; rw [if_pos hs, g1]; rfl) (by decide))
      have HW := Aside0.mk (fun W => l01Class_c low W)
      rw [g1] at HW
      clear g1 hs
      go_enter Try.func75, Try.ntmps75
      go_wp2_with fail
      refine HS.out.mono ?_; rintro _ w1 ⟨rfl, hb1⟩
      have HB1 := Aside0.mk hb1
      clear hb1
      go_wp2_with fail
      refine (HW.out _).mono ?_; rintro _ w2 ⟨rfl, rfl⟩
      go_wp2_with fail
      go_ret3
      exact ⟨ret_three HR.out.1.symm HR.out.2.1.symm HR.out.2.2.symm, HB1.out⟩
    · have HW := Aside0.mk (fun W => l01Class_c low W)
      rw [g1] at HW
      cases g2 : inR high 0 999
      · have HR := Aside0.mk (cr_bad (L := L) (low := low) (high := high) (e := 2) (by unfold crC okRange; rw [if_pos hs, g1, g2]; rfl) (by decide))
        have HV := Aside0.mk (fun W => l01Class_c high W)
        rw [g2] at HV
        clear g1 g2 hs
        go_enter Try.func75, Try.ntmps75
        go_wp2_with fail
        refine HS.out.mono ?_; rintro _ w1 ⟨rfl, hb1⟩
        have HB1 := Aside0.mk hb1
        clear hb1
        go_wp2_with fail
        refine (HW.out _).mono ?_; rintro _ w2 ⟨rfl, rfl⟩
        go_wp2_with fail
        refine (HV.out _).mono ?_; rintro _ w2 ⟨rfl, rfl⟩
        go_wp2_with fail
        go_ret3
        exact ⟨ret_three HR.out.1.symm HR.out.2.1.symm HR.out.2.2.symm, HB1.out⟩
      · have HV := Aside0.mk (fun W => l01Class_c high W)
        rw [g2] at HV
        have hl9 := inR_iff.1 g1
        have hh9 := inR_iff.1 g2
        by_cases g3 : low ≤ high
        · have HR := Aside0.mk (cr_ok (L := L) (low := low) (high := high) (by unfold crC okRange; rw [if_pos hs, g1, g2, decide_eq_true g3]; rfl))
          clear g1 g2 hs
          go_enter Try.func75, Try.ntmps75
          go_wp2_with fail
          refine HS.out.mono ?_; rintro _ w1 ⟨rfl, hb1⟩
          have HB1 := Aside0.mk hb1
          clear hb1
          go_wp2_with fail
          refine (HW.out _).mono ?_; rintro _ w2 ⟨rfl, rfl⟩
          go_wp2_with fail
          refine (HV.out _).mono ?_; rintro _ w2 ⟨rfl, rfl⟩
          go_wp2_with fail
          go_loopg [10, 11, 12] L.length (fun gk v10 v11 v12 wr => ∃ k : Nat, k + gk = L.length ∧ v10 = .int .i64 (cntF L low k : Nat) ∧ v11 = .int .i64 (cntF L (high + 1) k : Nat) ∧ v12 = .int .i64 (k : Int) ∧ wr = w1)
          case atStart => exact ⟨0, by omega, by simp [cntF], by simp [cntF], rfl, rfl⟩
          case round =>
            obtain ⟨k, hk, rfl, rfl, rfl, rfl⟩ := hrel
            have HK := Aside0.mk hk
            by_cases hlt : k < L.length
            · obtain ⟨ad, b, rfl, hbk, x0, x1, x2, x3, x4, x5, x6, x7⟩ := at_bk (Kd.C_below HL.out HB1.out) k hlt
              obtain ⟨b0, b9⟩ := (HO.out b (mem_of hbk.out)).1
              have HY1 := Aside0.mk (fun h => cntF_yes (n := low) hbk.out h)
              have HN1 := Aside0.mk (fun h => cntF_no (n := low) hbk.out h)
              have HY2 := Aside0.mk (fun h => cntF_yes (n := high + 1) hbk.out h)
              have HN2 := Aside0.mk (fun h => cntF_no (n := high + 1) hbk.out h)
              have l1 := cntF_le L low k
              have l2 := cntF_le L (high + 1) k
              obtain ⟨p, hp⟩ : ∃ p, cntF L low k = p := ⟨_, rfl⟩
              obtain ⟨q, hq⟩ : ∃ q, cntF L (high + 1) k = q := ⟨_, rfl⟩
              rw [hp] at HY1 HN1 l1 ⊢
              rw [hq] at HY2 HN2 l2 ⊢
              have n60 := HN.out
              have i0 : (0 : Int) ≤ (k : Int) := by omega
              have i1 : (k : Int) < (L.length : Int) := by omega
              clear hk hp hq
              by_cases c1 : b.c < low <;> by_cases c2 : b.c ≤ high
              · have S1 := Aside0.mk (HY1.out c1)
                have S2 := Aside0.mk (HY2.out (by omega))
                go_wp2
                go_roundg (gk - 1)
                case measure => have := HK.out; omega
                case rel => exact ⟨k + 1, by have := HK.out; omega, by rw [S1.out]; go_num, by rw [S2.out]; go_num, by go_num, rfl⟩
              · exfalso
                omega
              · have S1 := Aside0.mk (HN1.out c1)
                have S2 := Aside0.mk (HY2.out (by omega))
                go_wp2
                go_roundg (gk - 1)
                case measure => have := HK.out; omega
                case rel => exact ⟨k + 1, by have := HK.out; omega, by rw [S1.out], by rw [S2.out]; go_num, by go_num, rfl⟩
              · have S1 := Aside0.mk (HN1.out c1)
                have S2 := Aside0.mk (HN2.out (by omega))
                go_wp2
                go_roundg (gk - 1)
                case measure => have := HK.out; omega
                case rel => exact ⟨k + 1, by have := HK.out; omega, by rw [S1.out], by rw [S2.out], by go_num, rfl⟩
            · have S1 := Aside0.mk (cntF_all HU.out low (k := k) (by omega))
              have S2 := Aside0.mk (cntF_all HU.out (high + 1) (k := k) (by omega))
              clear hk
              go_wp2
              go_ret3
              exact ⟨ret_three (by rw [HR.out.1, S1.out]) (by rw [HR.out.2.1, S2.out]) HR.out.2.2.symm, HB1.out⟩
        · have HR := Aside0.mk (cr_bad (L := L) (low := low) (high := high) (e := 2) (by unfold crC okRange; rw [if_pos hs, g1, g2, decide_eq_false g3]; rfl) (by decide))
          clear g1 g2 hs
          go_enter Try.func75, Try.ntmps75
          go_wp2_with fail
          refine HS.out.mono ?_; rintro _ w1 ⟨rfl, hb1⟩
          have HB1 := Aside0.mk hb1
          clear hb1
          go_wp2_with fail
          refine (HW.out _).mono ?_; rintro _ w2 ⟨rfl, rfl⟩
          go_wp2_with fail
          refine (HV.out _).mono ?_; rintro _ w2 ⟨rfl, rfl⟩
          go_wp2_with fail
          go_ret3
          exact ⟨ret_three HR.out.1.symm HR.out.2.1.symm HR.out.2.2.symm, HB1.out⟩
  · have HR := Aside0.mk (cr_bad (L := L) (low := low) (high := high) (e := sCode L) (by unfold crC; rw [if_neg hs]) hs)
    have hq : (sCode L != 0) = true := by simpa using hs
    clear hs
    go_enter Try.func75, Try.ntmps75
    go_wp2_with fail
    refine HS.out.mono ?_; rintro _ w1 ⟨rfl, hb1⟩
    go_wp2_with fail
    go_ret3
    exact ⟨ret_three HR.out.1.symm HR.out.2.1.symm HR.out.2.2.symm, hb1⟩
end Go.Proofs.Ytgdhopcbiekhhaa
