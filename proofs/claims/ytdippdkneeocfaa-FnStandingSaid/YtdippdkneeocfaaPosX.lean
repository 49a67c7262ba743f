/- Books stand on shelves: WhereIs, BookAt; the program's and the reference's; Books stand on shelves: BookAt, ShelfOfClass; the program's and the reference's; ShelfOfClass: the program's and the reference's; MovedBooks: the program's and the reference's. -/
import Derived.Test.YtdippdkneeocfaaBadS
import Derived.Test.YtdippdkneeocfaaMovA
import Derived.Test.YtdippdkneeocfaaOver
import Derived.StillTailTactics
import Derived.Still
import Derived.Deep.QuietTactic
import Derived.BigQuiet
import Derived.Deep.RegionHeld3
namespace Go.Proofs.Ytdippdkneeocfaa
open Go.RowKit Go.Proofs.YtdippdkneeocfaaW.PrintWords Go.Proofs.YtdippdkneeocfaaW.PrintMore
set_option linter.unusedVariables false
set_option linter.unusedSimpArgs false
set_option maxRecDepth 100000

/-- How many books stand ahead of a shelf. -/
def bef (E : List Int) (s : Nat) : Int := if s = 0 then 0 else E.getD (s - 1) 0
theorem badGo_neg {k : Cs} {L : List Bk} {E : List Int} : ∀ (g s : Nat) (a : Int), badGo k L E g s a < 0 →
    (∀ j, s ≤ j → j < s + g → j < E.length ∧ ((if j = s then a else E.getD (j - 1) 0) ≤ E.getD j 0 ∧ E.getD j 0 ≤ L.length) ∧ fitL k j (subL L (if j = s then a else E.getD (j - 1) 0) (E.getD j 0)) = true) ∧
    (if g = 0 then a else E.getD (s + g - 1) 0) = L.length ∧ E.length ≤ k.hs.length
  | 0, s, a, h => by
    rw [badGo] at h
    split at h
    · rename_i h1
      exact ⟨fun j h2 h3 => by omega, by rw [if_pos rfl]; exact h1.1, h1.2⟩
    · omega
  | g + 1, s, a, h => by
    rw [badGo] at h
    split at h
    · rename_i h1
      obtain ⟨h2, h3, h4⟩ := badGo_neg g (s + 1) _ h
      refine ⟨fun j h5 h6 => ?_, ?_, h4⟩
      · by_cases e : j = s
        · subst e
          rw [if_pos rfl]
          exact h1
        · rw [if_neg e]
          have h7 := h2 j (by omega) (by omega)
          by_cases e2 : j = s + 1
          · subst e2
            rw [if_pos rfl] at h7
            simpa using h7
          · rw [if_neg e2] at h7
            exact h7
      · rw [if_neg (by omega)]
        by_cases e : g = 0
        · subst e
          rw [if_pos rfl] at h3
          simpa using h3
        · rw [if_neg e] at h3
          rw [← h3]
          congr 1
          omega
    · omega
structure LayP (k : Cs) (L : List Bk) (E : List Int) : Prop where
  n : E.length = k.hs.length
  s : ∀ j, j < E.length → (bef E j ≤ E.getD j 0 ∧ E.getD j 0 ≤ L.length) ∧ fitL k j (subL L (bef E j) (E.getD j 0)) = true
  last : bef E E.length = L.length
  case : vCase k = true
  list : vBooks L = true
theorem layP_of {k : Cs} {L : List Bk} {E : List Int} (h : layC k L E = 0) : LayP k L E := by
  unfold layC at h
  rcases eCL_split k L with ⟨hv, v1, v2⟩ | hv
  · rw [if_pos hv] at h
    split at h
    · cases h
    · rename_i hb
      have hb2 : badGo k L E k.hs.length 0 0 < 0 := by unfold badL at hb; omega
      obtain ⟨h1, h2, h3⟩ := badGo_neg _ _ _ hb2
      have hn := (vCase_bd v1).n.1
      have hlen : E.length = k.hs.length := by
        have := (h1 (k.hs.length - 1) (by omega) (by omega)).1
        omega
      refine ⟨hlen, fun j hj => ?_, ?_, v1, v2⟩
      · have := (h1 j (by omega) (by omega)).2
        unfold bef
        exact this
      · unfold bef
        rw [hlen, if_neg (by omega)]
        rw [if_neg (by omega)] at h2
        rw [← h2]
        congr 1
        omega
  · rw [hv] at h; cases h
theorem LayP.mono {k : Cs} {L : List Bk} {E : List Int} (h : LayP k L E) (d : Nat) : ∀ j, j + d ≤ E.length → bef E j ≤ bef E (j + d) := by
  induction d with
  | zero => intro j _; exact Int.le_refl _
  | succ d ih =>
    intro j hj
    have h1 := ih j (by omega)
    have h2 := (h.s (j + d) (by omega)).1.1
    have h3 : bef E (j + (d + 1)) = E.getD (j + d) 0 := by unfold bef; rw [if_neg (by omega)]; rfl
    omega
theorem LayP.nn {k : Cs} {L : List Bk} {E : List Int} (h : LayP k L E) (j : Nat) (hj : j ≤ E.length) : 0 ≤ bef E j ∧ bef E j ≤ L.length := by
  have h1 := h.mono j 0 (by omega)
  have h2 := h.mono (E.length - j) j (by omega)
  rw [show j + (E.length - j) = E.length by omega, h.last] at h2
  rw [Nat.zero_add] at h1
  exact ⟨h1, h2⟩
theorem bef_succ {E : List Int} {s : Nat} {e : Int} (h : E[s]? = some e) : bef E (s + 1) = e := by unfold bef; rw [if_neg (by omega)]; exact getD_of h
theorem LayP.any {k : Cs} {L : List Bk} {E : List Int} (h : LayP k L E) {b : Int} (hb : b < L.length) (h0 : 0 ≤ b) : ∃ e, e ∈ E ∧ b < e := by
  have h1 := h.last
  have hn := (vCase_bd h.case).n.1
  have hl : 0 < E.length := by have := h.n; omega
  obtain ⟨e, he⟩ : ∃ e, E[E.length - 1]? = some e := ⟨_, List.getElem?_eq_getElem (by omega)⟩
  have h3 := bef_succ he
  rw [show E.length - 1 + 1 = E.length by omega, h1] at h3
  exact ⟨e, mem_of he, by omega⟩
theorem sh_lt {E : List Int} {b : Int} (h : ∃ e, e ∈ E ∧ b < e) : shOf E b < E.length := by
  obtain ⟨e, he, hb⟩ := h
  exact List.findIdx_lt_length_of_exists ⟨e, he, decide_eq_true hb⟩
theorem sh_bef {E : List Int} {b : Int} (h0 : 0 ≤ b) : bef E (shOf E b) ≤ b ∨ E.length < shOf E b := by
  unfold bef
  by_cases hs : shOf E b = 0
  · rw [if_pos hs]; left; exact h0
  · rw [if_neg hs]
    left
    have hle : shOf E b ≤ E.length := List.findIdx_le_length
    have h1 : shOf E b - 1 < E.length := by omega
    have h2 : (decide (b < E[shOf E b - 1])) = false := by
      have := List.not_of_lt_findIdx (p := fun e => decide (b < e)) (xs := E) (i := shOf E b - 1) (by show shOf E b - 1 < shOf E b; omega)
      simpa using this
    rw [List.getD_eq_getElem?_getD, List.getElem?_eq_getElem h1]
    have := of_decide_eq_false h2
    show E[shOf E b - 1] ≤ b
    omega
set_option maxHeartbeats 1000000 in
theorem before_c (A : Option Addr) (c : Nat) (E : List Int) (s : Nat) (hs : s ≤ E.length) (w : World) (hE : (Kd.int .i64).C w A E.length E) :
    Calls Try.prog 137 #[.slice A E.length c, .int .i64 s] w (RetS w (.int .i64 (bef E s))) := by
  have hm := Kd.C_max hE
  by_cases h0 : s = 0
  · have HR := Aside0.mk (show bef E s = 0 by unfold bef; rw [if_pos h0])
    have b0 : ((s : Int) == 0) = true := by simp [h0]
    clear h0
    go_enter Try.func137, Try.ntmps137
    go_wp2
    go_ret
    exact ⟨ret_int HR.out.symm, rfl⟩
  · obtain ⟨ad, x, rfl, hbk, hx⟩ := at_int' hE (s - 1) (by omega)
    have HR := Aside0.mk (show bef E s = x by unfold bef; rw [if_neg h0]; exact getD_of hbk.out)
    have b0 : ((s : Int) == 0) = false := by simpa using h0
    have iw := wrap_pred s (by omega)
    have it : ((s : Int) - 1).toNat = s - 1 := by omega
    have i1 : (1 : Int) ≤ (s : Int) := by omega
    have i2 : (s : Int) < (E.length : Int) + 1 := by omega
    have i3 : (s : Int) - 1 < (E.length : Int) := by omega
    clear h0
    go_enter Try.func137, Try.ntmps137
    go_wp2
    go_ret
    exact ⟨ret_int HR.out.symm, rfl⟩
set_option maxHeartbeats 1000000 in
theorem l02From_c (A : Option Addr) (c : Nat) (E : List Int) (s : Nat) (hs : s ≤ E.length) (w : World) (hE : (Kd.int .i64).C w A E.length E) :
    Calls Try.prog 135 #[.slice A E.length c, .int .i64 s] w (RetS w (.int .i64 (bef E s))) := by
  have hm := Kd.C_max hE
  by_cases h0 : s = 0
  · have HR := Aside0.mk (show bef E s = 0 by unfold bef; rw [if_pos h0])
    have b0 : ((s : Int) == 0) = true := by simp [h0]
    clear h0
    go_enter Try.func135, Try.ntmps135
    go_wp2
    go_ret
    exact ⟨ret_int HR.out.symm, rfl⟩
  · obtain ⟨ad, x, rfl, hbk, hx⟩ := at_int' hE (s - 1) (by omega)
    have HR := Aside0.mk (show bef E s = x by unfold bef; rw [if_neg h0]; exact getD_of hbk.out)
    have b0 : ((s : Int) == 0) = false := by simpa using h0
    have iw := wrap_pred s (by omega)
    have it : ((s : Int) - 1).toNat = s - 1 := by omega
    have i1 : (1 : Int) ≤ (s : Int) := by omega
    have i2 : (s : Int) < (E.length : Int) + 1 := by omega
    have i3 : (s : Int) - 1 < (E.length : Int) := by omega
    clear h0
    go_enter Try.func135, Try.ntmps135
    go_wp2
    go_ret
    exact ⟨ret_int HR.out.symm, rfl⟩
/-- The width of the books from a to before b. -/
def wdS (L : List Bk) (a b : Int) : Int := (totL (subL L a b)).x
theorem subL_snoc {L : List Bk} {a : Int} {i : Nat} {x : Bk} (h0 : 0 ≤ a) (h1 : a ≤ i) (hx : L[i]? = some x) : subL L a ((i : Int) + 1) = subL L a i ++ [x] := by
  unfold subL
  rw [show ((i : Int) + 1).toNat = i + 1 by omega, Int.toNat_natCast, take_snoc hx]
  have hl := (List.getElem?_eq_some_iff.1 hx).1
  rw [List.drop_append_of_le_length (by rw [List.length_take]; omega)]
theorem tot_snoc (M : List Bk) (x : Bk) : totL (M ++ [x]) = (totL M).step x := by unfold totL; rw [List.foldl_append]; rfl
theorem wdS_nil {L : List Bk} {a : Int} : wdS L a a = 0 := by unfold wdS subL; rw [List.drop_eq_nil_of_le (by rw [List.length_take]; omega)]; rfl
theorem wdS_bd {L : List Bk} (h : FitOk L) (a b : Int) : 0 ≤ wdS L a b ∧ wdS L a b ≤ 6000 := by
  have h1 := h.sub (subL_sub L a b)
  have h2 := (h1.tot (subL L a b).length (Nat.le_refl _)).1
  rw [List.take_length] at h2
  have := h1.len
  unfold wdS
  omega
theorem wdS_step {L : List Bk} (h : FitOk L) {a : Int} {i : Nat} {x : Bk} (h0 : 0 ≤ a) (h1 : a ≤ i) (hx : L[i]? = some x) : wdS L a ((i : Int) + 1) = wdS L a i + x.wd := by
  have hb := wdS_bd h a i
  have hx2 := (h.bk x (mem_of hx)).1
  unfold wdS at hb ⊢
  rw [subL_snoc h0 h1 hx, tot_snoc]
  generalize totL (subL L a i) = t at hb
  simp only [T3.step]
  unfold wrap64
  omega
/-- Where a book stands. -/
def whC (k : Cs) (L : List Bk) (E : List Int) (b : Int) : Int := if layC k L E = 0 then (if inR b 0 ((L.length : Int) - 1) = true then 0 else 2) else layC k L E
def whS (k : Cs) (L : List Bk) (E : List Int) (b : Int) : Int := if whC k L E b = 0 then (shOf E b : Nat) else 0
def whP (k : Cs) (L : List Bk) (E : List Int) (b : Int) : Int := if whC k L E b = 0 then wdS L (bef E (shOf E b)) b else 0
theorem wh_bad {k : Cs} {L : List Bk} {E : List Int} {b e : Int} (h : whC k L E b = e) (he : e ≠ 0) : whS k L E b = 0 ∧ whP k L E b = 0 ∧ whC k L E b = e := ⟨by unfold whS; rw [h, if_neg he], by unfold whP; rw [h, if_neg he], h⟩
theorem wh_ok {k : Cs} {L : List Bk} {E : List Int} {b : Int} (h : whC k L E b = 0) : whS k L E b = (shOf E b : Nat) ∧ whP k L E b = wdS L (bef E (shOf E b)) b ∧ whC k L E b = 0 := ⟨by unfold whS; rw [h, if_pos rfl], by unfold whP; rw [h, if_pos rfl], h⟩
theorem info_i64' : ∃ i, Try.prog.info? 2 = some i ∧ i.size = 1 := by
  have h : (Try.prog.info? 2).map (fun i => i.size) = some 1 := by kernel_rfl
  cases e : Try.prog.info? 2 with
  | none => rw [e] at h; cases h
  | some i => rw [e] at h; exact ⟨i, rfl, by simpa using h⟩
set_option maxHeartbeats 1000000 in
theorem arr3_fst (x y z : Int) : ∀ W : World, (Instr.index 130 (.agg #[.int .i64 x, .int .i64 y, .int .i64 z]) (.int .i64 0)).run Try.prog W = .ok (.int .i64 x) W := by
  intro W
  obtain ⟨i, hi, hs⟩ := info_i64'
  simp [go_sem, Instr.index, Try.underlying130, hi, hs]
set_option maxHeartbeats 2000000 in
theorem WhereIs_c (k : Cs) (A : Option Addr) (c : Nat) (A1 : Option Addr) (c1 : Nat) (L : List Bk) (A2 : Option Addr) (c2 : Nat) (E : List Int) (b : Int) (hok : k.ok) (hoL : OkL L) (hc1 : L.length ≤ c1) (w : World) (hC : (Kd.int .i16).C w A k.hs.length k.hs) (hL : kBk.C w A1 L.length L) (hE : (Kd.int .i64).C w A2 E.length E) :
    Calls Try.prog 67 #[k.val A c, .slice A1 L.length c1, .slice A2 E.length c2, .int .i64 b] w (Ret w (.tuple #[.int .i64 (whS k L E b), .int .i64 (whP k L E b), .int .i64 (whC k L E b)])) := by
  have hm := Kd.C_max hC
  have hm1 := Kd.C_max hL
  have hm2 := Kd.C_max hE
  have HLC := Aside0.mk (show Calls Try.prog 136 #[k.val A c, .slice A1 L.length c1, .slice A2 E.length c2] (w.alloc (.cells #[.int .i16 k.wd, .int .i32 k.ld, .slice A k.hs.length c] 51)) (Ret (w.alloc (.cells #[.int .i16 k.wd, .int .i32 k.ld, .slice A k.hs.length c] 51)) (.int .i64 (layC k L E))) from layoutCode_c k A c A1 c1 L A2 c2 E hok hoL hc1 _ (Kd.C_alloc hC _) (Kd.C_alloc hL _) (Kd.C_alloc hE _))
  have HC := Aside0.mk hC
  have HL := Aside0.mk hL
  have HE2 := Aside0.mk hE
  have HB := Aside0.mk (balloc (Below.refl w.heap.size w) (.cells #[.int .i16 k.wd, .int .i32 k.ld, .slice A k.hs.length c] 51))
  have HX := Aside0.mk (CsAt.box w k A c 51)
  clear hC hL hE
  simp only [Cs.val] at HLC ⊢
  by_cases hv : layC k L E = 0
  · have HP := Aside0.mk (layP_of hv)
    have HW := Aside0.mk (fun W => within64_c b 0 ((L.length : Int) - 1) W)
    have iw := wrap_pred _ hm1
    cases v3 : inR b 0 ((L.length : Int) - 1)
    · have HR := Aside0.mk (wh_bad (k := k) (L := L) (E := E) (b := b) (e := 2) (by unfold whC; rw [if_pos hv, v3]; rfl) (by decide))
      rw [hv] at HLC
      rw [v3] at HW
      clear v3 hv
      obtain ⟨y0, y1, y2⟩ := HX.out
      go_enter Try.func67, Try.ntmps67
      go_wp2_with fail
      refine HLC.out.mono ?_; rintro _ w1 ⟨rfl, hb1⟩
      have HB1 := Aside0.mk (bstep HB.out hb1)
      have HX1 := Aside0.mk (HX.out.below hb1)
      clear hb1 y0 y1 y2
      obtain ⟨y0, y1, y2⟩ := HX1.out
      go_wp2_with fail
      refine (HW.out _).mono ?_; rintro _ w3 ⟨rfl, rfl⟩
      go_wp2_with fail
      go_ret3
      exact ⟨ret_three HR.out.1.symm HR.out.2.1.symm HR.out.2.2.symm, HB1.out⟩
    · obtain ⟨b1, b2⟩ := inR_iff.1 v3
      have HR := Aside0.mk (wh_ok (k := k) (L := L) (E := E) (b := b) (by unfold whC; rw [if_pos hv, v3]; rfl))
      have hany := HP.out.any (b := b) (by omega) b1
      have hsl := sh_lt hany
      have hbb := (sh_bef (E := E) b1).resolve_right (by omega)
      have hb0 := (HP.out.nn (shOf E b) (by omega)).1
      rw [hv] at HLC
      rw [v3] at HW
      obtain ⟨A', c', hcut, hc', hCC⟩ := cut_bk A1 c1 L (bef E (shOf E b)) b hb0 hbb (by omega) hc1
      have HCC := Aside0.mk hCC
      have HS := Aside0.mk (fun W h => shelfOf_c A2 c2 E b W h)
      have HF := Aside0.mk (fun W h => before_c A2 c2 E (shOf E b) (by omega) W h)
      have HT := Aside0.mk (fun W h => totals_c A' c' (subL L (bef E (shOf E b)) b) (fun x hx => hoL x ((subL_sub L _ _).subset hx)) W h)
      have HRR := Aside0.mk (show (totL (subL L (bef E (shOf E b)) b)).x = wdS L (bef E (shOf E b)) b from rfl)
      rw [← HRR.out] at HR
      clear v3 hv hCC hany HRR
      generalize shOf E b = s at HS HF HT HR HCC hcut hc' hsl hbb hb0
      generalize bef E s = a at HF HT HR HCC hcut hc' hbb hb0
      generalize subL L a b = M at HT HR HCC hcut hc'
      generalize totL M = t at HT HR
      simp only [T3.cells] at HT
      have hfst := arr3_fst t.x t.y t.z
      obtain ⟨y0, y1, y2⟩ := HX.out
      go_enter Try.func67, Try.ntmps67
      go_wp2_with fail
      refine HLC.out.mono ?_; rintro _ w1 ⟨rfl, hb1⟩
      have HB1 := Aside0.mk (bstep HB.out hb1)
      have HX1 := Aside0.mk (HX.out.below hb1)
      clear hb1 y0 y1 y2
      obtain ⟨y0, y1, y2⟩ := HX1.out
      go_wp2_with fail
      refine (HW.out _).mono ?_; rintro _ w3 ⟨rfl, rfl⟩
      go_wp2_with fail
      refine (HS.out _ (Kd.C_below HE2.out HB1.out)).mono ?_; rintro _ w3 ⟨rfl, hb3⟩
      have HB3 := Aside0.mk (bstep HB1.out hb3)
      clear hb3 y0 y1 y2
      go_wp2_with fail
      refine (HF.out _ (Kd.C_below HE2.out HB3.out)).mono ?_; rintro _ w4 ⟨rfl, rfl⟩
      go_wp2_with fail
      refine (HT.out _ (HCC.out _ (Kd.C_below HL.out HB3.out))).mono ?_; rintro _ w4 ⟨rfl, hb4⟩
      have HB4 := Aside0.mk (bstep HB3.out hb4)
      clear hb4
      go_wp2_with fail
      go_ret3
      exact ⟨ret_three HR.out.1.symm HR.out.2.1.symm HR.out.2.2.symm, HB4.out⟩
  · have HR := Aside0.mk (wh_bad (k := k) (L := L) (E := E) (b := b) (e := layC k L E) (by unfold whC; rw [if_neg hv]) hv)
    have bq : (layC k L E != 0) = true := by simpa using hv
    generalize layC k L E = e at HLC HR bq
    clear hv
    obtain ⟨y0, y1, y2⟩ := HX.out
    go_enter Try.func67, Try.ntmps67
    go_wp2_with fail
    refine HLC.out.mono ?_; rintro _ w1 ⟨rfl, hb1⟩
    have HB1 := Aside0.mk (bstep HB.out hb1)
    have HX1 := Aside0.mk (HX.out.below hb1)
    clear hb1 y0 y1 y2
    obtain ⟨y0, y1, y2⟩ := HX1.out
    go_wp2_with fail
    go_ret3
    exact ⟨ret_three HR.out.1.symm HR.out.2.1.symm HR.out.2.2.symm, HB1.out⟩
set_option maxHeartbeats 4000000 in
theorem specWhereIs_c (k : Cs) (A : Option Addr) (c : Nat) (A1 : Option Addr) (c1 : Nat) (L : List Bk) (A2 : Option Addr) (c2 : Nat) (E : List Int) (b : Int) (hok : k.ok) (hoL : OkL L) (hc1 : L.length ≤ c1) (w : World) (hC : (Kd.int .i16).C w A k.hs.length k.hs) (hL : kBk.C w A1 L.length L) (hE : (Kd.int .i64).C w A2 E.length E) :
    Calls Try.prog 66 #[k.val A c, .slice A1 L.length c1, .slice A2 E.length c2, .int .i64 b] w (Ret w (.tuple #[.int .i64 (whS k L E b), .int .i64 (whP k L E b), .int .i64 (whC k L E b)])) := by
  have hm := Kd.C_max hC
  have hm1 := Kd.C_max hL
  have hm2 := Kd.C_max hE
  have HLC := Aside0.mk (show Calls Try.prog 134 #[.pointer (some ⟨w.heap.size, 0, none⟩), .slice A1 L.length c1, .slice A2 E.length c2] (w.alloc (.cells #[.int .i16 k.wd, .int .i32 k.ld, .slice A k.hs.length c] 51)) (Ret (w.alloc (.cells #[.int .i16 k.wd, .int .i32 k.ld, .slice A k.hs.length c] 51)) (.int .i64 (layC k L E))) from l02Laid_c k A c _ A1 c1 L A2 c2 E hok hoL hc1 _ (CsAt.box w k A c 51) (Kd.C_alloc hC _) (Kd.C_alloc hL _) (Kd.C_alloc hE _))
  have HC := Aside0.mk hC
  have HL := Aside0.mk hL
  have HE2 := Aside0.mk hE
  have HB := Aside0.mk (balloc (Below.refl w.heap.size w) (.cells #[.int .i16 k.wd, .int .i32 k.ld, .slice A k.hs.length c] 51))
  have HX := Aside0.mk (CsAt.box w k A c 51)
  clear hC hL hE
  simp only [Cs.val] at HLC ⊢
  by_cases hv : layC k L E = 0
  · have HP := Aside0.mk (layP_of hv)
    have HW := Aside0.mk (fun W => l00In_c b 0 ((L.length : Int) - 1) W)
    have iw := wrap_pred _ hm1
    cases v3 : inR b 0 ((L.length : Int) - 1)
    · have HR := Aside0.mk (wh_bad (k := k) (L := L) (E := E) (b := b) (e := 2) (by unfold whC; rw [if_pos hv, v3]; rfl) (by decide))
      rw [hv] at HLC
      rw [v3] at HW
      clear v3 hv
      obtain ⟨y0, y1, y2⟩ := HX.out
      go_enter Try.func66, Try.ntmps66
      go_wp2_with fail
      refine HLC.out.mono ?_; rintro _ w1 ⟨rfl, hb1⟩
      have HB1 := Aside0.mk (bstep HB.out hb1)
      have HX1 := Aside0.mk (HX.out.below hb1)
      clear hb1 y0 y1 y2
      obtain ⟨y0, y1, y2⟩ := HX1.out
      go_wp2_with fail
      refine (HW.out _).mono ?_; rintro _ w3 ⟨rfl, rfl⟩
      go_wp2_with fail
      go_ret3
      exact ⟨ret_three HR.out.1.symm HR.out.2.1.symm HR.out.2.2.symm, HB1.out⟩
    · obtain ⟨b1, b2⟩ := inR_iff.1 v3
      have HR := Aside0.mk (wh_ok (k := k) (L := L) (E := E) (b := b) (by unfold whC; rw [if_pos hv, v3]; rfl))
      have hany := HP.out.any (b := b) (by omega) b1
      have hsl := sh_lt hany
      have hbb := (sh_bef (E := E) b1).resolve_right (by omega)
      have hb0 := (HP.out.nn (shOf E b) (by omega)).1
      rw [hv] at HLC
      rw [v3] at HW
      have HS := Aside0.mk (fun W h => l02Shelf_c A2 c2 E b W h hany)
      have HF := Aside0.mk (fun W h => l02From_c A2 c2 E (shOf E b) (by omega) W h)
      have HFO := Aside0.mk (FitOk.of HP.out.list)
      have hl60 := HFO.out.len
      clear v3 hv hany
      generalize shOf E b = s at HS HF HR hsl hbb hb0
      generalize bef E s = a at HF HR hbb hb0
      obtain ⟨y0, y1, y2⟩ := HX.out
      go_enter Try.func66, Try.ntmps66
      go_wp2_with fail
      refine HLC.out.mono ?_; rintro _ w1 ⟨rfl, hb1⟩
      have HB1 := Aside0.mk (bstep HB.out hb1)
      have HX1 := Aside0.mk (HX.out.below hb1)
      clear hb1 y0 y1 y2
      obtain ⟨y0, y1, y2⟩ := HX1.out
      go_wp2_with fail
      refine (HW.out _).mono ?_; rintro _ w3 ⟨rfl, rfl⟩
      go_wp2_with fail
      refine (HS.out _ (Kd.C_below HE2.out HB1.out)).mono ?_; rintro _ w3 ⟨rfl, rfl⟩
      go_wp2_with fail
      refine (HF.out _ (Kd.C_below HE2.out HB1.out)).mono ?_; rintro _ w4 ⟨rfl, rfl⟩
      clear y0 y1 y2
      go_wp2_with fail
      go_loopg [13, 14] (b - a).toNat (fun gk v13 v14 wr => ∃ i : Nat, ∃ q : Int, (i : Int) + (gk : Int) = b ∧ v14 = .int .i64 i ∧ v13 = .int .i64 q ∧ Aside0 (q = wdS L a i ∧ a ≤ (i : Int)) ∧ w1 = wr)
      case atStart => exact ⟨a.toNat, 0, by omega, by rw [Int.toNat_of_nonneg hb0], rfl, ⟨by rw [Int.toNat_of_nonneg hb0, wdS_nil], by omega⟩, rfl⟩
      case round =>
        obtain ⟨i, q, hk, rfl, rfl, hp, rfl⟩ := hrel
        have HK := Aside0.mk hk
        obtain ⟨q1, q2⟩ := wdS_bd HFO.out a i
        rw [← hp.out.1] at q1 q2
        by_cases hlt : (i : Int) < b
        · obtain ⟨ad, bk, rfl, hbk, x0, x1, x2, x3, x4, x5, x6, x7⟩ := at_bk (Kd.C_below HL.out HB1.out) i (by omega)
          obtain ⟨⟨u1, u2⟩, _⟩ := HFO.out.bk bk (mem_of hbk.out)
          have HN := Aside0.mk (show q + bk.wd = wdS L a ((i : Int) + 1) by rw [hp.out.1]; exact (wdS_step HFO.out hb0 hp.out.2 hbk.out).symm)
          have i0 : (0 : Int) ≤ (i : Int) := by omega
          have i1 : (i : Int) < (L.length : Int) := by omega
          clear hk
          go_wp2
          go_roundg (gk - 1)
          case measure => have := HK.out; omega
          case rel => exact ⟨i + 1, q + bk.wd, by have := HK.out; omega, by go_num, by go_num, ⟨by rw [HN.out]; rfl, by have := hp.out.2; omega⟩, rfl⟩
        · have HN := Aside0.mk (show q = wdS L a b by rw [hp.out.1]; congr 1; omega)
          clear hk
          go_wp2
          go_ret3
          exact ⟨ret_three HR.out.1.symm (by rw [HR.out.2.1, HN.out]) HR.out.2.2.symm, HB1.out⟩
  · have HR := Aside0.mk (wh_bad (k := k) (L := L) (E := E) (b := b) (e := layC k L E) (by unfold whC; rw [if_neg hv]) hv)
    have bq : (layC k L E != 0) = true := by simpa using hv
    have bq2 : (layC k L E == 0) = false := by simpa using hv
    generalize layC k L E = e at HLC HR bq bq2
    clear hv
    obtain ⟨y0, y1, y2⟩ := HX.out
    go_enter Try.func66, Try.ntmps66
    go_wp2_with fail
    refine HLC.out.mono ?_; rintro _ w1 ⟨rfl, hb1⟩
    have HB1 := Aside0.mk (bstep HB.out hb1)
    have HX1 := Aside0.mk (HX.out.below hb1)
    clear hb1 y0 y1 y2
    obtain ⟨y0, y1, y2⟩ := HX1.out
    go_wp2_with fail
    go_ret3
    exact ⟨ret_three HR.out.1.symm HR.out.2.1.symm HR.out.2.2.symm, HB1.out⟩
/-- The book that covers a place, -1 if none does: g books from i on, with width q ahead of them. -/
def baGo (L : List Bk) (pl : Int) : Nat → Nat → Int → Int
  | 0, _, _ => -1
  | g + 1, i, q => if pl < q + (L.getD i zBk).wd then (i : Int) else baGo L pl g (i + 1) (q + (L.getD i zBk).wd)
theorem baGo_hit {L : List Bk} {pl q : Int} {g i : Nat} {b : Bk} (hg : 0 < g) (hb : L[i]? = some b) (h : pl < q + b.wd) : baGo L pl g i q = (i : Int) := by
  match g, hg with
  | g + 1, _ => rw [baGo, List.getD_eq_getElem?_getD, hb]; exact if_pos h
theorem baGo_next {L : List Bk} {pl q : Int} {g i : Nat} {b : Bk} (hg : 0 < g) (hb : L[i]? = some b) (h : ¬ pl < q + b.wd) : baGo L pl g i q = baGo L pl (g - 1) (i + 1) (q + b.wd) := by
  match g, hg with
  | g + 1, _ => rw [baGo, List.getD_eq_getElem?_getD, hb]; exact if_neg h
def baR (L : List Bk) (E : List Int) (s : Nat) (pl : Int) : Int := baGo L pl (E.getD s 0 - bef E s).toNat (bef E s).toNat 0
def baIn (k : Cs) (sh pl : Int) : Bool := inR sh 0 ((k.hs.length : Int) - 1) && inR pl 0 (k.wd - 1)
def baC (k : Cs) (L : List Bk) (E : List Int) (sh pl : Int) : Int := if layC k L E = 0 then (if baIn k sh pl = true then (if baR L E sh.toNat pl < 0 then 6 else 0) else 2) else layC k L E
def baV (k : Cs) (L : List Bk) (E : List Int) (sh pl : Int) : Int := if baC k L E sh pl = 0 then baR L E sh.toNat pl else 0
theorem ba_bad {k : Cs} {L : List Bk} {E : List Int} {sh pl e : Int} (h : baC k L E sh pl = e) (he : e ≠ 0) : baV k L E sh pl = 0 ∧ baC k L E sh pl = e := ⟨by unfold baV; rw [h, if_neg he], h⟩
theorem ba_ok {k : Cs} {L : List Bk} {E : List Int} {sh pl r : Int} (h1 : layC k L E = 0) (h2 : baIn k sh pl = true) (hr : baR L E sh.toNat pl = r) : baV k L E sh pl = (if r < 0 then 0 else r) ∧ baC k L E sh pl = (if r < 0 then 6 else 0) := by
  have h3 : baC k L E sh pl = if r < 0 then 6 else 0 := by unfold baC; rw [if_pos h1, if_pos h2, hr]
  refine ⟨?_, h3⟩
  unfold baV
  rw [h3]
  by_cases h4 : r < 0
  · rw [if_pos h4, if_pos h4]; rfl
  · rw [if_neg h4, if_neg h4, if_pos rfl, hr]
theorem ba_hit {k : Cs} {L : List Bk} {E : List Int} {sh pl : Int} {i : Nat} (h : ∀ r, baR L E sh.toNat pl = r → baV k L E sh pl = (if r < 0 then 0 else r) ∧ baC k L E sh pl = (if r < 0 then 6 else 0)) (hr : baR L E sh.toNat pl = (i : Int)) : baV k L E sh pl = (i : Int) ∧ baC k L E sh pl = 0 := by
  have := h _ hr
  rw [if_neg (by omega), if_neg (by omega)] at this
  exact this
theorem ba_none {k : Cs} {L : List Bk} {E : List Int} {sh pl : Int} (h : ∀ r, baR L E sh.toNat pl = r → baV k L E sh pl = (if r < 0 then 0 else r) ∧ baC k L E sh pl = (if r < 0 then 6 else 0)) (hr : baR L E sh.toNat pl = -1) : baV k L E sh pl = 0 ∧ baC k L E sh pl = 6 := by
  have := h _ hr
  rw [if_pos (by decide), if_pos (by decide)] at this
  exact this
set_option maxHeartbeats 4000000 in
theorem BookAt_c (k : Cs) (A : Option Addr) (c : Nat) (A1 : Option Addr) (c1 : Nat) (L : List Bk) (A2 : Option Addr) (c2 : Nat) (E : List Int) (sh pl : Int) (hok : k.ok) (hoL : OkL L) (hc1 : L.length ≤ c1) (w : World) (hC : (Kd.int .i16).C w A k.hs.length k.hs) (hL : kBk.C w A1 L.length L) (hE : (Kd.int .i64).C w A2 E.length E) :
    Calls Try.prog 65 #[k.val A c, .slice A1 L.length c1, .slice A2 E.length c2, .int .i64 sh, .int .i64 pl] w (Ret w (.tuple #[.int .i64 (baV k L E sh pl), .int .i64 (baC k L E sh pl)])) := by
  have hm := Kd.C_max hC
  have hm1 := Kd.C_max hL
  have hm2 := Kd.C_max hE
  have HLC := Aside0.mk (show Calls Try.prog 136 #[k.val A c, .slice A1 L.length c1, .slice A2 E.length c2] (w.alloc (.cells #[.int .i16 k.wd, .int .i32 k.ld, .slice A k.hs.length c] 51)) (Ret (w.alloc (.cells #[.int .i16 k.wd, .int .i32 k.ld, .slice A k.hs.length c] 51)) (.int .i64 (layC k L E))) from layoutCode_c k A c A1 c1 L A2 c2 E hok hoL hc1 _ (Kd.C_alloc hC _) (Kd.C_alloc hL _) (Kd.C_alloc hE _))
  have HC := Aside0.mk hC
  have HL := Aside0.mk hL
  have HE2 := Aside0.mk hE
  have HB := Aside0.mk (balloc (Below.refl w.heap.size w) (.cells #[.int .i16 k.wd, .int .i32 k.ld, .slice A k.hs.length c] 51))
  have HX := Aside0.mk (CsAt.box w k A c 51)
  clear hC hL hE
  simp only [Cs.val] at HLC ⊢
  obtain ⟨⟨o1, o2⟩, _, _⟩ := hok
  by_cases hv : layC k L E = 0
  · have HP := Aside0.mk (layP_of hv)
    have hn := HP.out.n
    have HW := Aside0.mk (fun W => show Calls Try.prog 129 #[.int .i64 sh, .int .i64 0, .int .i64 ((E.length : Int) - 1)] W (RetS W (.bool (inR sh 0 ((k.hs.length : Int) - 1)))) by rw [hn]; exact within64_c sh 0 _ W)
    have HW2 := Aside0.mk (fun W => within64_c pl 0 (k.wd - 1) W)
    have iw := wrap_pred _ hm2
    have iw2 : IntKind.i64.wrap (k.wd - 1) = k.wd - 1 := by simp only [IntKind.wrap, IntKind.bits, IntKind.signed, Bool.true_and, decide_eq_true_eq, ge_iff_le]; split <;> omega
    cases v3 : inR sh 0 ((k.hs.length : Int) - 1)
    · have HR := Aside0.mk (ba_bad (k := k) (L := L) (E := E) (sh := sh) (pl := pl) (e := 2) (by unfold baC baIn; rw [if_pos hv, v3]; rfl) (by decide))
      rw [hv] at HLC
      rw [v3] at HW
      clear v3 hv hn
      obtain ⟨y0, y1, y2⟩ := HX.out
      go_enter Try.func65, Try.ntmps65
      go_wp2_with fail
      refine HLC.out.mono ?_; rintro _ w1 ⟨rfl, hb1⟩
      have HB1 := Aside0.mk (bstep HB.out hb1)
      have HX1 := Aside0.mk (HX.out.below hb1)
      clear hb1 y0 y1 y2
      obtain ⟨y0, y1, y2⟩ := HX1.out
      go_wp2_with fail
      refine (HW.out _).mono ?_; rintro _ w3 ⟨rfl, rfl⟩
      go_wp2_with fail
      go_ret2
      exact ⟨ret_two HR.out.1.symm HR.out.2.symm, HB1.out⟩
    · cases v4 : inR pl 0 (k.wd - 1)
      · have HR := Aside0.mk (ba_bad (k := k) (L := L) (E := E) (sh := sh) (pl := pl) (e := 2) (by unfold baC baIn; rw [if_pos hv, v3, v4]; rfl) (by decide))
        rw [hv] at HLC
        rw [v3] at HW
        rw [v4] at HW2
        clear v3 v4 hv hn
        obtain ⟨y0, y1, y2⟩ := HX.out
        go_enter Try.func65, Try.ntmps65
        go_wp2_with fail
        refine HLC.out.mono ?_; rintro _ w1 ⟨rfl, hb1⟩
        have HB1 := Aside0.mk (bstep HB.out hb1)
        have HX1 := Aside0.mk (HX.out.below hb1)
        clear hb1 y0 y1 y2
        obtain ⟨y0, y1, y2⟩ := HX1.out
        go_wp2_with fail
        refine (HW.out _).mono ?_; rintro _ w3 ⟨rfl, rfl⟩
        go_wp2_with fail
        refine (HW2.out _).mono ?_; rintro _ w3 ⟨rfl, rfl⟩
        go_wp2_with fail
        go_ret2
        exact ⟨ret_two HR.out.1.symm HR.out.2.symm, HB1.out⟩
      · obtain ⟨b1, b2⟩ := inR_iff.1 v3
        have HR := Aside0.mk (fun r => ba_ok (k := k) (L := L) (E := E) (sh := sh) (pl := pl) (r := r) hv (by unfold baIn; rw [v3, v4]; rfl))
        obtain ⟨s, rfl⟩ : ∃ s : Nat, sh = s := ⟨sh.toNat, by omega⟩
        have hsl : s < E.length := by omega
        obtain ⟨e, he⟩ : ∃ e, E[s]? = some e := ⟨_, List.getElem?_eq_getElem hsl⟩
        have hse := HP.out.s s hsl
        rw [getD_of he] at hse
        obtain ⟨⟨hae, heL⟩, _⟩ := hse
        have ha0 := (HP.out.nn s (by omega)).1
        have HF := Aside0.mk (fun W h => before_c A2 c2 E s (by omega) W h)
        have HFO := Aside0.mk (FitOk.of HP.out.list)
        have hl60 := HFO.out.len
        have HBA := Aside0.mk (show baR L E (s : Int).toNat pl = baGo L pl (e - bef E s).toNat (bef E s).toNat 0 by unfold baR; rw [Int.toNat_natCast, getD_of he])
        have HEE := Aside0.mk he
        rw [hv] at HLC
        rw [v3] at HW
        rw [v4] at HW2
        clear v3 v4 hv hn he b1 b2
        generalize bef E s = a at HF HBA hae ha0
        obtain ⟨y0, y1, y2⟩ := HX.out
        go_enter Try.func65, Try.ntmps65
        go_wp2_with fail
        refine HLC.out.mono ?_; rintro _ w1 ⟨rfl, hb1⟩
        have HB1 := Aside0.mk (bstep HB.out hb1)
        have HX1 := Aside0.mk (HX.out.below hb1)
        clear hb1 y0 y1 y2
        obtain ⟨y0, y1, y2⟩ := HX1.out
        go_wp2_with fail
        refine (HW.out _).mono ?_; rintro _ w3 ⟨rfl, rfl⟩
        go_wp2_with fail
        refine (HW2.out _).mono ?_; rintro _ w3 ⟨rfl, rfl⟩
        go_wp2_with fail
        refine (HF.out _ (Kd.C_below HE2.out HB1.out)).mono ?_; rintro _ w4 ⟨rfl, rfl⟩
        clear y0 y1 y2 HF HW HW2
        go_wp2_with fail
        go_loopg [13, 14] (e - a).toNat (fun gk v13 v14 wr => ∃ i : Nat, ∃ q : Int, (i : Int) + (gk : Int) = e ∧ v14 = .int .i64 i ∧ v13 = .int .i64 q ∧ Aside0 (baGo L pl (e - a).toNat a.toNat 0 = baGo L pl gk i q ∧ q = wdS L a i ∧ a ≤ (i : Int)) ∧ w1 = wr)
        case atStart => exact ⟨a.toNat, 0, by omega, by rw [Int.toNat_of_nonneg ha0], rfl, ⟨rfl, by rw [Int.toNat_of_nonneg ha0, wdS_nil], by omega⟩, rfl⟩
        case round =>
          obtain ⟨i, q, hk, rfl, rfl, hp, rfl⟩ := hrel
          have HK := Aside0.mk hk
          obtain ⟨q1, q2⟩ := wdS_bd HFO.out a i
          rw [← hp.out.2.1] at q1 q2
          obtain ⟨ad2, e', rfl, hbe, hxe⟩ := at_int' (Kd.C_below HE2.out HB1.out) s hsl
          have hee : e' = e := by have h1 := hbe.out; rw [HEE.out] at h1; exact (Option.some.inj h1).symm
          subst hee
          have s0 : (0 : Int) ≤ (s : Int) := by omega
          have s1 : (s : Int) < (E.length : Int) := by omega
          by_cases hlt : (i : Int) < e'
          · obtain ⟨ad, bk, rfl, hbk, x0, x1, x2, x3, x4, x5, x6, x7⟩ := at_bk (Kd.C_below HL.out HB1.out) i (by omega)
            obtain ⟨⟨u1, u2⟩, _⟩ := HFO.out.bk bk (mem_of hbk.out)
            have HN := Aside0.mk (show q + bk.wd = wdS L a ((i : Int) + 1) by rw [hp.out.2.1]; exact (wdS_step HFO.out ha0 hp.out.2.2 hbk.out).symm)
            have i0 : (0 : Int) ≤ (i : Int) := by omega
            have i1 : (i : Int) < (L.length : Int) := by omega
            have hg : 0 < gk := by omega
            clear hk
            by_cases hq : pl < q + bk.wd
            · have HH := Aside0.mk (ba_hit HR.out (by rw [HBA.out, hp.out.1]; exact baGo_hit hg hbk.out hq))
              go_wp2
              go_ret2
              exact ⟨ret_two HH.out.1.symm HH.out.2.symm, HB1.out⟩
            · have HH := Aside0.mk (hp.out.1.trans (baGo_next hg hbk.out hq))
              go_wp2
              go_roundg (gk - 1)
              case measure => have := HK.out; omega
              case rel => exact ⟨i + 1, q + bk.wd, by have := HK.out; omega, by go_num, by go_num, ⟨HH.out, by rw [HN.out]; rfl, by have := hp.out.2.2; omega⟩, rfl⟩
          · have hg : gk = 0 := by omega
            have HH := Aside0.mk (ba_none HR.out (by rw [HBA.out, hp.out.1, hg]; rfl))
            clear hk hg
            go_wp2
            go_ret2
            exact ⟨ret_two HH.out.1.symm HH.out.2.symm, HB1.out⟩
  · have HR := Aside0.mk (ba_bad (k := k) (L := L) (E := E) (sh := sh) (pl := pl) (e := layC k L E) (by unfold baC; rw [if_neg hv]) hv)
    have bq : (layC k L E != 0) = true := by simpa using hv
    generalize layC k L E = e at HLC HR bq
    clear hv
    obtain ⟨y0, y1, y2⟩ := HX.out
    go_enter Try.func65, Try.ntmps65
    go_wp2_with fail
    refine HLC.out.mono ?_; rintro _ w1 ⟨rfl, hb1⟩
    have HB1 := Aside0.mk (bstep HB.out hb1)
    have HX1 := Aside0.mk (HX.out.below hb1)
    clear hb1 y0 y1 y2
    obtain ⟨y0, y1, y2⟩ := HX1.out
    go_wp2_with fail
    go_ret2
    exact ⟨ret_two HR.out.1.symm HR.out.2.symm, HB1.out⟩
set_option maxHeartbeats 4000000 in
theorem specBookAt_c (k : Cs) (A : Option Addr) (c : Nat) (A1 : Option Addr) (c1 : Nat) (L : List Bk) (A2 : Option Addr) (c2 : Nat) (E : List Int) (sh pl : Int) (hok : k.ok) (hoL : OkL L) (hc1 : L.length ≤ c1) (w : World) (hC : (Kd.int .i16).C w A k.hs.length k.hs) (hL : kBk.C w A1 L.length L) (hE : (Kd.int .i64).C w A2 E.length E) :
    Calls Try.prog 64 #[k.val A c, .slice A1 L.length c1, .slice A2 E.length c2, .int .i64 sh, .int .i64 pl] w (Ret w (.tuple #[.int .i64 (baV k L E sh pl), .int .i64 (baC k L E sh pl)])) := by
  have hm := Kd.C_max hC
  have hm1 := Kd.C_max hL
  have hm2 := Kd.C_max hE
  have HLC := Aside0.mk (show Calls Try.prog 134 #[.pointer (some ⟨w.heap.size, 0, none⟩), .slice A1 L.length c1, .slice A2 E.length c2] (w.alloc (.cells #[.int .i16 k.wd, .int .i32 k.ld, .slice A k.hs.length c] 51)) (Ret (w.alloc (.cells #[.int .i16 k.wd, .int .i32 k.ld, .slice A k.hs.length c] 51)) (.int .i64 (layC k L E))) from l02Laid_c k A c _ A1 c1 L A2 c2 E hok hoL hc1 _ (CsAt.box w k A c 51) (Kd.C_alloc hC _) (Kd.C_alloc hL _) (Kd.C_alloc hE _))
  have HC := Aside0.mk hC
  have HL := Aside0.mk hL
  have HE2 := Aside0.mk hE
  have HB := Aside0.mk (balloc (Below.refl w.heap.size w) (.cells #[.int .i16 k.wd, .int .i32 k.ld, .slice A k.hs.length c] 51))
  have HX := Aside0.mk (CsAt.box w k A c 51)
  clear hC hL hE
  simp only [Cs.val] at HLC ⊢
  obtain ⟨⟨o1, o2⟩, _, _⟩ := hok
  by_cases hv : layC k L E = 0
  · have HP := Aside0.mk (layP_of hv)
    have hn := HP.out.n
    have HW := Aside0.mk (fun W => l00In_c sh 0 ((k.hs.length : Int) - 1) W)
    have HW2 := Aside0.mk (fun W => l00In_c pl 0 (k.wd - 1) W)
    have iw := wrap_pred _ hm
    have iw2 : IntKind.i64.wrap (k.wd - 1) = k.wd - 1 := by simp only [IntKind.wrap, IntKind.bits, IntKind.signed, Bool.true_and, decide_eq_true_eq, ge_iff_le]; split <;> omega
    cases v3 : inR sh 0 ((k.hs.length : Int) - 1)
    · have HR := Aside0.mk (ba_bad (k := k) (L := L) (E := E) (sh := sh) (pl := pl) (e := 2) (by unfold baC baIn; rw [if_pos hv, v3]; rfl) (by decide))
      rw [hv] at HLC
      rw [v3] at HW
      clear v3 hv hn
      obtain ⟨y0, y1, y2⟩ := HX.out
      go_enter Try.func64, Try.ntmps64
      go_wp2_with fail
      refine HLC.out.mono ?_; rintro _ w1 ⟨rfl, hb1⟩
      have HB1 := Aside0.mk (bstep HB.out hb1)
      have HX1 := Aside0.mk (HX.out.below hb1)
      clear hb1 y0 y1 y2
      obtain ⟨y0, y1, y2⟩ := HX1.out
      go_wp2_with fail
      refine (HW.out _).mono ?_; rintro _ w3 ⟨rfl, rfl⟩
      go_wp2_with fail
      go_ret2
      exact ⟨ret_two HR.out.1.symm HR.out.2.symm, HB1.out⟩
    · cases v4 : inR pl 0 (k.wd - 1)
      · have HR := Aside0.mk (ba_bad (k := k) (L := L) (E := E) (sh := sh) (pl := pl) (e := 2) (by unfold baC baIn; rw [if_pos hv, v3, v4]; rfl) (by decide))
        rw [hv] at HLC
        rw [v3] at HW
        rw [v4] at HW2
        clear v3 v4 hv hn
        obtain ⟨y0, y1, y2⟩ := HX.out
        go_enter Try.func64, Try.ntmps64
        go_wp2_with fail
        refine HLC.out.mono ?_; rintro _ w1 ⟨rfl, hb1⟩
        have HB1 := Aside0.mk (bstep HB.out hb1)
        have HX1 := Aside0.mk (HX.out.below hb1)
        clear hb1 y0 y1 y2
        obtain ⟨y0, y1, y2⟩ := HX1.out
        go_wp2_with fail
        refine (HW.out _).mono ?_; rintro _ w3 ⟨rfl, rfl⟩
        go_wp2_with fail
        refine (HW2.out _).mono ?_; rintro _ w3 ⟨rfl, rfl⟩
        go_wp2_with fail
        go_ret2
        exact ⟨ret_two HR.out.1.symm HR.out.2.symm, HB1.out⟩
      · obtain ⟨b1, b2⟩ := inR_iff.1 v3
        have HR := Aside0.mk (fun r => ba_ok (k := k) (L := L) (E := E) (sh := sh) (pl := pl) (r := r) hv (by unfold baIn; rw [v3, v4]; rfl))
        obtain ⟨s, rfl⟩ : ∃ s : Nat, sh = s := ⟨sh.toNat, by omega⟩
        have hsl : s < E.length := by omega
        obtain ⟨e, he⟩ : ∃ e, E[s]? = some e := ⟨_, List.getElem?_eq_getElem hsl⟩
        have hse := HP.out.s s hsl
        rw [getD_of he] at hse
        obtain ⟨⟨hae, heL⟩, _⟩ := hse
        have ha0 := (HP.out.nn s (by omega)).1
        have HF := Aside0.mk (fun W h => l02From_c A2 c2 E s (by omega) W h)
        have HFO := Aside0.mk (FitOk.of HP.out.list)
        have hl60 := HFO.out.len
        have HBA := Aside0.mk (show baR L E (s : Int).toNat pl = baGo L pl (e - bef E s).toNat (bef E s).toNat 0 by unfold baR; rw [Int.toNat_natCast, getD_of he])
        have HEE := Aside0.mk he
        rw [hv] at HLC
        rw [v3] at HW
        rw [v4] at HW2
        clear v3 v4 hv hn he b1 b2
        generalize bef E s = a at HF HBA hae ha0
        obtain ⟨y0, y1, y2⟩ := HX.out
        go_enter Try.func64, Try.ntmps64
        go_wp2_with fail
        refine HLC.out.mono ?_; rintro _ w1 ⟨rfl, hb1⟩
        have HB1 := Aside0.mk (bstep HB.out hb1)
        have HX1 := Aside0.mk (HX.out.below hb1)
        clear hb1 y0 y1 y2
        obtain ⟨y0, y1, y2⟩ := HX1.out
        go_wp2_with fail
        refine (HW.out _).mono ?_; rintro _ w3 ⟨rfl, rfl⟩
        go_wp2_with fail
        refine (HW2.out _).mono ?_; rintro _ w3 ⟨rfl, rfl⟩
        go_wp2_with fail
        refine (HF.out _ (Kd.C_below HE2.out HB1.out)).mono ?_; rintro _ w4 ⟨rfl, rfl⟩
        clear y0 y1 y2 HF HW HW2
        go_wp2_with fail
        go_loopg [13, 14] (e - a).toNat (fun gk v13 v14 wr => ∃ i : Nat, ∃ q : Int, (i : Int) + (gk : Int) = e ∧ v14 = .int .i64 i ∧ v13 = .int .i64 q ∧ Aside0 (baGo L pl (e - a).toNat a.toNat 0 = baGo L pl gk i q ∧ q = wdS L a i ∧ a ≤ (i : Int)) ∧ w1 = wr)
        case atStart => exact ⟨a.toNat, 0, by omega, by rw [Int.toNat_of_nonneg ha0], rfl, ⟨rfl, by rw [Int.toNat_of_nonneg ha0, wdS_nil], by omega⟩, rfl⟩
        case round =>
          obtain ⟨i, q, hk, rfl, rfl, hp, rfl⟩ := hrel
          have HK := Aside0.mk hk
          obtain ⟨q1, q2⟩ := wdS_bd HFO.out a i
          rw [← hp.out.2.1] at q1 q2
          obtain ⟨ad2, e', rfl, hbe, hxe⟩ := at_int' (Kd.C_below HE2.out HB1.out) s hsl
          have hee : e' = e := by have h1 := hbe.out; rw [HEE.out] at h1; exact (Option.some.inj h1).symm
          subst hee
          have s0 : (0 : Int) ≤ (s : Int) := by omega
          have s1 : (s : Int) < (E.length : Int) := by omega
          by_cases hlt : (i : Int) < e'
          · obtain ⟨ad, bk, rfl, hbk, x0, x1, x2, x3, x4, x5, x6, x7⟩ := at_bk (Kd.C_below HL.out HB1.out) i (by omega)
            obtain ⟨⟨u1, u2⟩, _⟩ := HFO.out.bk bk (mem_of hbk.out)
            have HN := Aside0.mk (show q + bk.wd = wdS L a ((i : Int) + 1) by rw [hp.out.2.1]; exact (wdS_step HFO.out ha0 hp.out.2.2 hbk.out).symm)
            have i0 : (0 : Int) ≤ (i : Int) := by omega
            have i1 : (i : Int) < (L.length : Int) := by omega
            have hg : 0 < gk := by omega
            clear hk
            by_cases hq : pl < q + bk.wd
            · have HH := Aside0.mk (ba_hit HR.out (by rw [HBA.out, hp.out.1]; exact baGo_hit hg hbk.out hq))
              go_wp2
              go_ret2
              exact ⟨ret_two HH.out.1.symm HH.out.2.symm, HB1.out⟩
            · have HH := Aside0.mk (hp.out.1.trans (baGo_next hg hbk.out hq))
              go_wp2
              go_roundg (gk - 1)
              case measure => have := HK.out; omega
              case rel => exact ⟨i + 1, q + bk.wd, by have := HK.out; omega, by go_num, by go_num, ⟨HH.out, by rw [HN.out]; rfl, by have := hp.out.2.2; omega⟩, rfl⟩
          · have hg : gk = 0 := by omega
            have HH := Aside0.mk (ba_none HR.out (by rw [HBA.out, hp.out.1, hg]; rfl))
            clear hk hg
            go_wp2
            go_ret2
            exact ⟨ret_two HH.out.1.symm HH.out.2.symm, HB1.out⟩
  · have HR := Aside0.mk (ba_bad (k := k) (L := L) (E := E) (sh := sh) (pl := pl) (e := layC k L E) (by unfold baC; rw [if_neg hv]) hv)
    have bq : (layC k L E != 0) = true := by simpa using hv
    have bq2 : (layC k L E == 0) = false := by simpa using hv
    generalize layC k L E = e at HLC HR bq bq2
    clear hv
    obtain ⟨y0, y1, y2⟩ := HX.out
    go_enter Try.func64, Try.ntmps64
    go_wp2_with fail
    refine HLC.out.mono ?_; rintro _ w1 ⟨rfl, hb1⟩
    have HB1 := Aside0.mk (bstep HB.out hb1)
    have HX1 := Aside0.mk (HX.out.below hb1)
    clear hb1 y0 y1 y2
    obtain ⟨y0, y1, y2⟩ := HX1.out
    go_wp2_with fail
    go_ret2
    exact ⟨ret_two HR.out.1.symm HR.out.2.symm, HB1.out⟩
theorem sh_mono (E : List Int) {i j : Int} (h : i ≤ j) : shOf E i ≤ shOf E j := by
  unfold shOf
  induction E with
  | nil => exact Nat.le_refl _
  | cons e E ih =>
    rw [List.findIdx_cons, List.findIdx_cons]
    by_cases h1 : i < e
    · rw [decide_eq_true h1]; exact Nat.zero_le _
    · rw [decide_eq_false h1, decide_eq_false (by omega)]
      simpa using ih
/-- The first and the last shelf with a book of a class among the first n books. -/
def scP (L : List Bk) (E : List Int) (cl : Int) : Nat → Int × Int
  | 0 => (-1, -1)
  | n + 1 => if (L.getD n zBk).c = cl then (if (scP L E cl n).1 < 0 then ((shOf E n : Nat) : Int) else (scP L E cl n).1, ((shOf E n : Nat) : Int)) else scP L E cl n
theorem scP_no {L : List Bk} {E : List Int} {cl : Int} {n : Nat} {b : Bk} (h : L[n]? = some b) (hc : ¬ b.c = cl) : scP L E cl (n + 1) = scP L E cl n := by
  rw [scP, List.getD_eq_getElem?_getD, h]; exact if_neg hc
theorem scP_yes {L : List Bk} {E : List Int} {cl : Int} {n : Nat} {b : Bk} (h : L[n]? = some b) (hc : b.c = cl) : scP L E cl (n + 1) = (if (scP L E cl n).1 < 0 then ((shOf E n : Nat) : Int) else (scP L E cl n).1, ((shOf E n : Nat) : Int)) := by
  rw [scP, List.getD_eq_getElem?_getD, h]; exact if_pos hc
theorem scP_inv (L : List Bk) (E : List Int) (cl : Int) (n : Nat) : (scP L E cl n).1 = -1 ∧ (scP L E cl n).2 = -1 ∨ 0 ≤ (scP L E cl n).1 ∧ (scP L E cl n).1 ≤ (scP L E cl n).2 ∧ ∃ i : Nat, i < n ∧ (scP L E cl n).2 = (shOf E i : Nat) := by
  induction n with
  | zero => left; exact ⟨rfl, rfl⟩
  | succ n ih =>
    rw [scP]
    by_cases hc : (L.getD n zBk).c = cl
    · rw [if_pos hc]
      right
      rcases ih with ⟨h1, h2⟩ | ⟨h1, h2, i, hi, h3⟩
      · rw [h1, if_pos (by decide)]
        exact ⟨by simp, by simp, n, by omega, rfl⟩
      · rw [if_neg (by omega)]
        have := sh_mono E (i := (i : Int)) (j := (n : Int)) (by omega)
        exact ⟨h1, by simp only []; omega, n, by omega, rfl⟩
    · rw [if_neg hc]
      rcases ih with h | ⟨h1, h2, i, hi, h3⟩
      · exact .inl h
      · exact .inr ⟨h1, h2, i, by omega, h3⟩
theorem scP_le (L : List Bk) (E : List Int) (cl : Int) (n : Nat) : -1 ≤ (scP L E cl n).1 ∧ (scP L E cl n).1 ≤ (scP L E cl n).2 ∧ (scP L E cl n).2 ≤ E.length := by
  rcases scP_inv L E cl n with ⟨h1, h2⟩ | ⟨h1, h2, i, hi, h3⟩
  · omega
  · have : shOf E i ≤ E.length := List.findIdx_le_length
    omega
def scC (k : Cs) (L : List Bk) (E : List Int) (cl : Int) : Int := if layC k L E = 0 then (if (scP L E cl L.length).2 < 0 then 6 else 0) else layC k L E
def scF (k : Cs) (L : List Bk) (E : List Int) (cl : Int) : Int := if scC k L E cl = 0 then (scP L E cl L.length).1 else 0
def scL (k : Cs) (L : List Bk) (E : List Int) (cl : Int) : Int := if scC k L E cl = 0 then (scP L E cl L.length).2 else 0
theorem sc_bad {k : Cs} {L : List Bk} {E : List Int} {cl e : Int} (h : scC k L E cl = e) (he : e ≠ 0) : scF k L E cl = 0 ∧ scL k L E cl = 0 ∧ scC k L E cl = e := ⟨by unfold scF; rw [h, if_neg he], by unfold scL; rw [h, if_neg he], h⟩
theorem sc_none {k : Cs} {L : List Bk} {E : List Int} {cl f l : Int} (h : layC k L E = 0) (hp : scP L E cl L.length = (f, l)) (hl : l < 0) : scF k L E cl = 0 ∧ scL k L E cl = 0 ∧ scC k L E cl = 6 := sc_bad (by unfold scC; rw [if_pos h, hp]; exact if_pos hl) (by decide)
theorem sc_some {k : Cs} {L : List Bk} {E : List Int} {cl f l : Int} (h : layC k L E = 0) (hp : scP L E cl L.length = (f, l)) (hl : ¬ l < 0) : scF k L E cl = f ∧ scL k L E cl = l ∧ scC k L E cl = 0 := by
  have h1 : scC k L E cl = 0 := by unfold scC; rw [if_pos h, hp]; exact if_neg hl
  exact ⟨by unfold scF; rw [h1, if_pos rfl, hp], by unfold scL; rw [h1, if_pos rfl, hp], h1⟩
theorem l00Min_c (x y : Int) (h : x ≤ y) (w : World) : Calls Try.prog 142 #[.int .i64 x, .int .i64 y] w (RetS w (.int .i64 x)) := by
  go_enter Try.func142, Try.ntmps142
  go_wp2
  all_goals (go_ret; exact ⟨ret_int (by omega), rfl⟩)
set_option maxHeartbeats 4000000 in
theorem ShelfOfClass_c (k : Cs) (A : Option Addr) (c : Nat) (A1 : Option Addr) (c1 : Nat) (L : List Bk) (A2 : Option Addr) (c2 : Nat) (E : List Int) (cl : Int) (hok : k.ok) (hoL : OkL L) (hc1 : L.length ≤ c1) (w : World) (hC : (Kd.int .i16).C w A k.hs.length k.hs) (hL : kBk.C w A1 L.length L) (hE : (Kd.int .i64).C w A2 E.length E) :
    Calls Try.prog 71 #[k.val A c, .slice A1 L.length c1, .slice A2 E.length c2, .int .i64 cl] w (Ret w (.tuple #[.int .i64 (scF k L E cl), .int .i64 (scL k L E cl), .int .i64 (scC k L E cl)])) := by
  have hm := Kd.C_max hC
  have hm1 := Kd.C_max hL
  have hm2 := Kd.C_max hE
  have HLC := Aside0.mk (show Calls Try.prog 136 #[k.val A c, .slice A1 L.length c1, .slice A2 E.length c2] (w.alloc (.cells #[.int .i16 k.wd, .int .i32 k.ld, .slice A k.hs.length c] 51)) (Ret (w.alloc (.cells #[.int .i16 k.wd, .int .i32 k.ld, .slice A k.hs.length c] 51)) (.int .i64 (layC k L E))) from layoutCode_c k A c A1 c1 L A2 c2 E hok hoL hc1 _ (Kd.C_alloc hC _) (Kd.C_alloc hL _) (Kd.C_alloc hE _))
  have HC := Aside0.mk hC
  have HL := Aside0.mk hL
  have HE2 := Aside0.mk hE
  have HB := Aside0.mk (balloc (Below.refl w.heap.size w) (.cells #[.int .i16 k.wd, .int .i32 k.ld, .slice A k.hs.length c] 51))
  have HX := Aside0.mk (CsAt.box w k A c 51)
  clear hC hL hE
  simp only [Cs.val] at HLC ⊢
  by_cases hv : layC k L E = 0
  · have HP := Aside0.mk (layP_of hv)
    have HV := Aside0.mk hv
    have HS := Aside0.mk (fun W h b => shelfOf_c A2 c2 E b W h)
    have HOL := Aside0.mk hoL
    rw [hv] at HLC
    clear hv hoL
    obtain ⟨y0, y1, y2⟩ := HX.out
    go_enter Try.func71, Try.ntmps71
    go_wp2_with fail
    refine HLC.out.mono ?_; rintro _ w1 ⟨rfl, hb1⟩
    have HB1 := Aside0.mk (bstep HB.out hb1)
    have HX1 := Aside0.mk (HX.out.below hb1)
    clear hb1 y0 y1 y2
    obtain ⟨y0, y1, y2⟩ := HX1.out
    go_wp2_with fail
    clear y0 y1 y2
    go_loopg [12, 13, 25] L.length (fun gk v12 v13 v25 wr => ∃ n : Nat, ∃ f l : Int, n + gk = L.length ∧ v25 = .int .i64 n ∧ v12 = .int .i64 f ∧ v13 = .int .i64 l ∧ Aside0 (scP L E cl n = (f, l)) ∧ Aside0 (Below w.heap.size w wr))
    case atStart => exact ⟨0, -1, -1, by omega, rfl, rfl, rfl, ⟨rfl⟩, HB1⟩
    case round =>
      obtain ⟨n, f, l, hk, rfl, rfl, rfl, hp, hb⟩ := hrel
      have HK := Aside0.mk hk
      have hbd := scP_le L E cl n
      rw [hp.out] at hbd
      simp only [] at hbd
      obtain ⟨f1, f2, f3⟩ := hbd
      by_cases hlt : n < L.length
      · obtain ⟨ad, b, rfl, hbk, x0, x1, x2, x3, x4, x5, x6, x7⟩ := at_bk (Kd.C_below HL.out hb.out) n hlt
        obtain ⟨⟨u1, u2⟩, _⟩ := HOL.out b (mem_of hbk.out)
        have i0 : (0 : Int) ≤ (n : Int) := by omega
        have i1 : (n : Int) < (L.length : Int) := by omega
        have HBb := Aside0.mk (balloc hb.out (.cells #[.int .i16 b.c, .int .u8 b.m0, .int .u8 b.m1, .int .u8 b.m2, .int .i16 b.v, .int .i16 b.wd, .int .i16 b.h, .int .i16 b.wt] 27))
        clear hk
        by_cases hcl : b.c = cl
        · have HN := Aside0.mk (scP_yes (E := E) hbk.out hcl)
          rw [hp.out] at HN
          have d1 : (b.c == cl) = true := by simp [hcl]
          clear hcl
          go_wp2_with fail
          refine (HS.out _ (Kd.C_below HE2.out HBb.out) _).mono ?_; rintro _ w3 ⟨rfl, hb3⟩
          have HB3 := Aside0.mk (bstep HBb.out hb3)
          clear hb3 x0 x1 x2 x3 x4 x5 x6 x7
          by_cases hf : f < 0
          · have HN2 := Aside0.mk (show scP L E cl (n + 1) = (((shOf E n : Nat) : Int), ((shOf E n : Nat) : Int)) by rw [HN.out]; simp only [if_pos hf])
            clear HN
            go_wp2_with fail
            go_roundg (gk - 1)
            case measure => have := HK.out; omega
            case rel => exact ⟨n + 1, _, _, by have := HK.out; omega, by go_num, rfl, rfl, HN2, HB3⟩
          · have HN2 := Aside0.mk (show scP L E cl (n + 1) = (f, ((shOf E n : Nat) : Int)) by rw [HN.out]; simp only [if_neg hf])
            clear HN
            go_wp2_with fail
            go_roundg (gk - 1)
            case measure => have := HK.out; omega
            case rel => exact ⟨n + 1, f, _, by have := HK.out; omega, by go_num, rfl, rfl, HN2, HB3⟩
        · have HN := Aside0.mk (scP_no (E := E) hbk.out hcl)
          rw [hp.out] at HN
          have d1 : (b.c == cl) = false := by simpa using hcl
          clear hcl
          go_wp2_with fail
          go_roundg (gk - 1)
          case measure => have := HK.out; omega
          case rel => exact ⟨n + 1, f, l, by have := HK.out; omega, by go_num, rfl, rfl, HN, HBb⟩
      · have hn : n = L.length := by omega
        have HPP := Aside0.mk (show scP L E cl L.length = (f, l) by rw [← hn]; exact hp.out)
        have HI := Aside0.mk (scP_inv L E cl L.length)
        rw [HPP.out] at HI
        clear hk hn
        by_cases hf : f < 0
        · have HR := Aside0.mk (sc_none (k := k) HV.out HPP.out (by have := HI.out; simp only [] at this; omega))
          go_wp2
          go_ret3
          exact ⟨ret_three HR.out.1.symm HR.out.2.1.symm HR.out.2.2.symm, hb.out⟩
        · have HR := Aside0.mk (sc_some (k := k) HV.out HPP.out (by omega))
          go_wp2
          go_ret3
          exact ⟨ret_three HR.out.1.symm HR.out.2.1.symm HR.out.2.2.symm, hb.out⟩
  · have HR := Aside0.mk (sc_bad (k := k) (L := L) (E := E) (cl := cl) (e := layC k L E) (by unfold scC; rw [if_neg hv]) hv)
    have bq : (layC k L E != 0) = true := by simpa using hv
    generalize layC k L E = e at HLC HR bq
    clear hv
    obtain ⟨y0, y1, y2⟩ := HX.out
    go_enter Try.func71, Try.ntmps71
    go_wp2_with fail
    refine HLC.out.mono ?_; rintro _ w1 ⟨rfl, hb1⟩
    have HB1 := Aside0.mk (bstep HB.out hb1)
    have HX1 := Aside0.mk (HX.out.below hb1)
    clear hb1 y0 y1 y2
    obtain ⟨y0, y1, y2⟩ := HX1.out
    go_wp2_with fail
    go_ret3
    exact ⟨ret_three HR.out.1.symm HR.out.2.1.symm HR.out.2.2.symm, HB1.out⟩
set_option maxHeartbeats 4000000 in
theorem specShelfOfClass_c (k : Cs) (A : Option Addr) (c : Nat) (A1 : Option Addr) (c1 : Nat) (L : List Bk) (A2 : Option Addr) (c2 : Nat) (E : List Int) (cl : Int) (hok : k.ok) (hoL : OkL L) (hc1 : L.length ≤ c1) (w : World) (hC : (Kd.int .i16).C w A k.hs.length k.hs) (hL : kBk.C w A1 L.length L) (hE : (Kd.int .i64).C w A2 E.length E) :
    Calls Try.prog 70 #[k.val A c, .slice A1 L.length c1, .slice A2 E.length c2, .int .i64 cl] w (Ret w (.tuple #[.int .i64 (scF k L E cl), .int .i64 (scL k L E cl), .int .i64 (scC k L E cl)])) := by
  have hm := Kd.C_max hC
  have hm1 := Kd.C_max hL
  have hm2 := Kd.C_max hE
  have HLC := Aside0.mk (show Calls Try.prog 134 #[.pointer (some ⟨w.heap.size, 0, none⟩), .slice A1 L.length c1, .slice A2 E.length c2] (w.alloc (.cells #[.int .i16 k.wd, .int .i32 k.ld, .slice A k.hs.length c] 51)) (Ret (w.alloc (.cells #[.int .i16 k.wd, .int .i32 k.ld, .slice A k.hs.length c] 51)) (.int .i64 (layC k L E))) from l02Laid_c k A c _ A1 c1 L A2 c2 E hok hoL hc1 _ (CsAt.box w k A c 51) (Kd.C_alloc hC _) (Kd.C_alloc hL _) (Kd.C_alloc hE _))
  have HC := Aside0.mk hC
  have HL := Aside0.mk hL
  have HE2 := Aside0.mk hE
  have HB := Aside0.mk (balloc (Below.refl w.heap.size w) (.cells #[.int .i16 k.wd, .int .i32 k.ld, .slice A k.hs.length c] 51))
  have HX := Aside0.mk (CsAt.box w k A c 51)
  clear hC hL hE
  simp only [Cs.val] at HLC ⊢
  by_cases hv : layC k L E = 0
  · have HP := Aside0.mk (layP_of hv)
    have HV := Aside0.mk hv
    have HS := Aside0.mk (fun W h (b : Int) h1 h2 => l02Shelf_c A2 c2 E b W h (HP.out.any (b := b) h2 h1))
    have HOL := Aside0.mk hoL
    rw [hv] at HLC
    clear hv hoL
    obtain ⟨y0, y1, y2⟩ := HX.out
    go_enter Try.func70, Try.ntmps70
    go_wp2_with fail
    refine HLC.out.mono ?_; rintro _ w1 ⟨rfl, hb1⟩
    have HB1 := Aside0.mk (bstep HB.out hb1)
    have HX1 := Aside0.mk (HX.out.below hb1)
    clear hb1 y0 y1 y2
    obtain ⟨y0, y1, y2⟩ := HX1.out
    go_wp2_with fail
    clear y0 y1 y2
    go_loopg [12, 13, 14] L.length (fun gk v12 v13 v25 wr => ∃ n : Nat, ∃ f l : Int, n + gk = L.length ∧ v25 = .int .i64 n ∧ v12 = .int .i64 f ∧ v13 = .int .i64 l ∧ Aside0 (scP L E cl n = (f, l)) ∧ Aside0 (Below w.heap.size w wr))
    case atStart => exact ⟨0, -1, -1, by omega, rfl, rfl, rfl, ⟨rfl⟩, HB1⟩
    case round =>
      obtain ⟨n, f, l, hk, rfl, rfl, rfl, hp, hb⟩ := hrel
      have HK := Aside0.mk hk
      have hbd := scP_le L E cl n
      rw [hp.out] at hbd
      simp only [] at hbd
      obtain ⟨f1, f2, f3⟩ := hbd
      by_cases hlt : n < L.length
      · obtain ⟨ad, b, rfl, hbk, x0, x1, x2, x3, x4, x5, x6, x7⟩ := at_bk (Kd.C_below HL.out hb.out) n hlt
        obtain ⟨⟨u1, u2⟩, _⟩ := HOL.out b (mem_of hbk.out)
        have i0 : (0 : Int) ≤ (n : Int) := by omega
        have i1 : (n : Int) < (L.length : Int) := by omega
        clear hk
        by_cases hcl : b.c = cl
        · have HN := Aside0.mk (scP_yes (E := E) hbk.out hcl)
          rw [hp.out] at HN
          have d1 : (b.c == cl) = true := by simp [hcl]
          have HSS := Aside0.mk (HS.out _ (Kd.C_below HE2.out hb.out) n i0 i1)
          clear hcl
          go_wp2_with fail
          refine HSS.out.mono ?_; rintro _ w3 ⟨rfl, rfl⟩
          clear x0 x1 x2 x3 x4 x5 x6 x7 HSS
          by_cases hf : f < 0
          · have HN2 := Aside0.mk (show scP L E cl (n + 1) = (((shOf E n : Nat) : Int), ((shOf E n : Nat) : Int)) by rw [HN.out]; simp only [if_pos hf])
            clear HN
            go_wp2_with fail
            go_roundg (gk - 1)
            case measure => have := HK.out; omega
            case rel => exact ⟨n + 1, _, _, by have := HK.out; omega, by go_num, rfl, rfl, HN2, hb⟩
          · have HN2 := Aside0.mk (show scP L E cl (n + 1) = (f, ((shOf E n : Nat) : Int)) by rw [HN.out]; simp only [if_neg hf])
            clear HN
            go_wp2_with fail
            go_roundg (gk - 1)
            case measure => have := HK.out; omega
            case rel => exact ⟨n + 1, f, _, by have := HK.out; omega, by go_num, rfl, rfl, HN2, hb⟩
        · have HN := Aside0.mk (scP_no (E := E) hbk.out hcl)
          rw [hp.out] at HN
          have d1 : (b.c == cl) = false := by simpa using hcl
          clear hcl
          go_wp2_with fail
          go_roundg (gk - 1)
          case measure => have := HK.out; omega
          case rel => exact ⟨n + 1, f, l, by have := HK.out; omega, by go_num, rfl, rfl, HN, hb⟩
      · have hn : n = L.length := by omega
        have HPP := Aside0.mk (show scP L E cl L.length = (f, l) by rw [← hn]; exact hp.out)
        clear hk hn
        by_cases hl : l < 0
        · have HR := Aside0.mk (sc_none (k := k) HV.out HPP.out hl)
          go_wp2
          go_ret3
          exact ⟨ret_three HR.out.1.symm HR.out.2.1.symm HR.out.2.2.symm, hb.out⟩
        · have HR := Aside0.mk (sc_some (k := k) HV.out HPP.out hl)
          go_wp2_with fail
          refine (l00Min_c f l f2 _).mono ?_; rintro _ w3 ⟨rfl, rfl⟩
          go_wp2_with fail
          go_ret3
          exact ⟨ret_three HR.out.1.symm HR.out.2.1.symm HR.out.2.2.symm, hb.out⟩
  · have HR := Aside0.mk (sc_bad (k := k) (L := L) (E := E) (cl := cl) (e := layC k L E) (by unfold scC; rw [if_neg hv]) hv)
    have bq : (layC k L E != 0) = true := by simpa using hv
    generalize layC k L E = e at HLC HR bq
    clear hv
    obtain ⟨y0, y1, y2⟩ := HX.out
    go_enter Try.func70, Try.ntmps70
    go_wp2_with fail
    refine HLC.out.mono ?_; rintro _ w1 ⟨rfl, hb1⟩
    have HB1 := Aside0.mk (bstep HB.out hb1)
    have HX1 := Aside0.mk (HX.out.below hb1)
    clear hb1 y0 y1 y2
    obtain ⟨y0, y1, y2⟩ := HX1.out
    go_wp2_with fail
    go_ret3
    exact ⟨ret_three HR.out.1.symm HR.out.2.1.symm HR.out.2.2.symm, HB1.out⟩
/-- How many of the first m books stand on different shelves. -/
def mvCnt (a b : List Int) : Nat → Nat
  | 0 => 0
  | m + 1 => mvCnt a b m + (if shOf a m = shOf b m then 0 else 1)
theorem mvCnt_le (a b : List Int) (m : Nat) : mvCnt a b m ≤ m := by
  induction m with
  | zero => exact Nat.le_refl _
  | succ m ih => rw [mvCnt]; split <;> omega
def lastOf (L : List Int) : Int := L.getLastD 0
theorem lastOf_at {L : List Int} {x : Int} (h : L[L.length - 1]? = some x) : lastOf L = x := by
  unfold lastOf
  rw [List.getLastD_eq_getLast?, List.getLast?_eq_getElem?, h]
  rfl
def mbE (a b : List Int) : Int := if a.length = b.length then (if (grow a && grow b) = true then (if a.length = 0 then 0 else if lastOf a = lastOf b then 0 else 2) else 2) else 4
def mbV (a b : List Int) : Int := if mbE a b = 0 then (if a.length = 0 then 0 else (mvCnt a b (lastOf a).toNat : Nat)) else 0
theorem mb_bad {a b : List Int} {e : Int} (h : mbE a b = e) (he : e ≠ 0) : mbV a b = 0 ∧ mbE a b = e := ⟨by unfold mbV; rw [h, if_neg he], h⟩
theorem grow_last {L : List Int} {x : Int} (h : grow L = true) (hx : L[L.length - 1]? = some x) : 0 ≤ x ∧ x ≤ 60 := by
  have := ((grF_iff L 0).1 h).2 x (mem_of hx)
  exact this
theorem mb_nil : mbV [] [] = 0 ∧ mbE [] [] = 0 := by
  have h : mbE [] [] = 0 := by unfold mbE grow grF; rfl
  exact ⟨by unfold mbV; rw [if_pos h]; rfl, h⟩
set_option maxHeartbeats 4000000 in
theorem specMoved0_c (A A' : Option Addr) (c c' : Nat) (w : World) (hL : (Kd.int .i64).C w A 0 []) (hL' : (Kd.int .i64).C w A' 0 []) :
    Calls Try.prog 49 #[.slice A 0 c, .slice A' 0 c'] w (Ret w (.tuple #[.int .i64 0, .int .i64 0])) := by
  have HL := Aside0.mk hL
  have HL' := Aside0.mk hL'
  clear hL hL'
  have HG := Aside0.mk (fun A c W (h : (Kd.int .i64).C W A 0 []) => (l02Numbers_c A c [] W h).mono fun e w' h => (⟨h.1, h.2.symm⟩ : e = .returned (.bool true) ∧ w' = W))
  simp only [List.length_nil] at HG
  go_enter Try.func49, Try.ntmps49
  go_wp2_with fail
  go_quiet (first | (go_at_call 122; exact Calls.quiet_of_same (HG.out _ _ _ (by first | exact Kd.C_drewN HL.out _ | exact Kd.C_drewN HL'.out _))))
  go_wp2
  refine wp_loop_once ?_
  go_wp2
  go_ret2
  exact ⟨rfl, bdrewN (Below.refl _ _) _⟩
theorem specMovedNe_c (A A' : Option Addr) (c c' : Nat) (L L' : List Int) (hll : L.length ≠ L'.length) (w : World) (hm : L.length ≤ 9223372036854775807) (hm' : L'.length ≤ 9223372036854775807) :
    Calls Try.prog 49 #[.slice A L.length c, .slice A' L'.length c'] w (Ret w (.tuple #[.int .i64 (mbV L L'), .int .i64 (mbE L L')])) := by
  have HE := Aside0.mk (mb_bad (a := L) (b := L') (e := 4) (by unfold mbE; rw [if_neg hll]) (by decide))
  have b0 : ((L.length : Int) != (L'.length : Int)) = true := by simp; omega
  have b0' : (L.length != L'.length) = true := by simpa using hll
  clear hll
  go_enter Try.func49, Try.ntmps49
  go_wp2
  go_ret2
  exact ⟨ret_two HE.out.1.symm HE.out.2.symm, Below.refl _ _⟩
set_option maxHeartbeats 4000000 in
theorem specMoved1_c (A A' : Option Addr) (c c' : Nat) (L L' : List Int) (hne : Aside0 (L.length ≠ 0)) (w : World) (hL : (Kd.int .i64).C w A L.length L) (hL' : (Kd.int .i64).C w A' L'.length L') :
    Calls Try.prog 49 #[.slice A L.length c, .slice A' L'.length c'] w (Ret w (.tuple #[.int .i64 (mbV L L'), .int .i64 (mbE L L')])) := by
  have hm := Kd.C_max hL
  have hm' := Kd.C_max hL'
  have HL := Aside0.mk hL
  have HL' := Aside0.mk hL'
  clear hL hL'
  have HG := Aside0.mk (fun W h => (l02Numbers_c A c L W h).mono fun e w' h => (⟨h.1, h.2.symm⟩ : e = .returned (.bool (grow L)) ∧ w' = W))
  have HG' := Aside0.mk (fun W h => (l02Numbers_c A' c' L' W h).mono fun e w' h => (⟨h.1, h.2.symm⟩ : e = .returned (.bool (grow L')) ∧ w' = W))
  by_cases hll : L.length = L'.length
  · have b0 : ((L.length : Int) != (L'.length : Int)) = false := by simp [hll]
    have b0' : (L.length != L'.length) = false := by simp [hll]
    cases g1 : grow L
    · have HE := Aside0.mk (mb_bad (a := L) (b := L') (e := 2) (by unfold mbE; rw [if_pos hll, g1]; rfl) (by decide))
      rw [g1] at HG
      clear g1 hll
      go_enter Try.func49, Try.ntmps49
      go_wp2_with fail
      go_quiet (first | (go_at_call 122; exact Calls.quiet_of_same (HG.out _ (Kd.C_drewN HL.out _))))
      go_wp2
      go_ret2
      exact ⟨ret_two HE.out.1.symm HE.out.2.symm, bdrewN (Below.refl _ _) _⟩
    · cases g2 : grow L'
      · have HE := Aside0.mk (mb_bad (a := L) (b := L') (e := 2) (by unfold mbE; rw [if_pos hll, g1, g2]; rfl) (by decide))
        rw [g1] at HG
        rw [g2] at HG'
        clear g1 g2 hll
        go_enter Try.func49, Try.ntmps49
        go_wp2_with fail
        go_quiet (first | (go_at_call_of 122 (Value.slice A L.length c); exact Calls.quiet_of_same (HG.out _ (Kd.C_drewN HL.out _))) | (go_at_call 122; exact Calls.quiet_of_same (HG'.out _ (Kd.C_drewN HL'.out _))))
        go_wp2
        go_ret2
        exact ⟨ret_two HE.out.1.symm HE.out.2.symm, bdrewN (Below.refl _ _) _⟩
      · by_cases h0 : L.length = 0
        · exact absurd h0 hne.out
        · have hlen' : 0 < L'.length := by omega
          have hlen : 0 < L.length := by omega
          have HLL := Aside0.mk hll
          obtain ⟨ad, x, rfl, hbk, hx⟩ := at_int' HL.out (L.length - 1) (by omega)
          obtain ⟨ad', y, rfl, hbk', hy⟩ := at_int' HL'.out (L'.length - 1) (by omega)
          have HX := Aside0.mk (grow_last g1 hbk.out)
          have HMX := Aside0.mk (mem_of hbk.out)
          have HMY := Aside0.mk (mem_of hbk'.out)
          have iw : IntKind.i64.wrap ((L.length : Int) - 1) = (L.length : Int) - 1 := by simp only [IntKind.wrap, IntKind.bits, IntKind.signed, Bool.true_and, decide_eq_true_eq, ge_iff_le]; split <;> omega
          have iw' : IntKind.i64.wrap ((L'.length : Int) - 1) = (L'.length : Int) - 1 := by simp only [IntKind.wrap, IntKind.bits, IntKind.signed, Bool.true_and, decide_eq_true_eq, ge_iff_le]; split <;> omega
          have it : ((L.length : Int) - 1).toNat = L.length - 1 := by omega
          have it' : ((L'.length : Int) - 1).toNat = L'.length - 1 := by omega
          have i1 : (1 : Int) ≤ (L.length : Int) := by omega
          have i1' : (1 : Int) ≤ (L'.length : Int) := by omega
          have hlx := lastOf_at hbk.out
          have hly := lastOf_at hbk'.out
          by_cases hxy : x = y
          · have hmE : mbE L L' = 0 := by unfold mbE; rw [if_pos hll, g1, g2]; simp only [Bool.and_self, if_true]; rw [if_neg h0, hlx, hly, if_pos hxy]
            have hmV : mbV L L' = (mvCnt L L' x.toNat : Nat) := by unfold mbV; rw [if_pos hmE, if_neg h0, hlx]
            have HE := Aside0.mk (And.intro hmV hmE)
            have HXY := Aside0.mk hxy
            have bq : (x != y) = false := by simp [hxy]
            rw [g1] at HG
            rw [g2] at HG'
            clear g1 g2 hll hmE hmV hlx hly h0 hxy
            go_enter Try.func49, Try.ntmps49
            go_wp2_with fail
            go_quiet (first | (go_at_call_of 122 (Value.slice (some ad) L.length c); exact Calls.quiet_of_same (HG.out _ (Kd.C_drewN HL.out _))) | (go_at_call 122; exact Calls.quiet_of_same (HG'.out _ (Kd.C_drewN HL'.out _))))
            go_wp2
            clear HG HG' b0 b0' bq
            go_loopg [6, 7] x.toNat (fun gk v6 v7 wr => ∃ k : Nat, k + gk = x.toNat ∧ v7 = .int .i64 k ∧ v6 = .int .i64 (mvCnt L L' k : Nat) ∧ Aside0 (Below w.heap.size w wr))
            case atStart => exact ⟨0, by omega, rfl, rfl, ⟨bdrewN (Below.refl _ _) _⟩⟩
            case round =>
              obtain ⟨k, hk, rfl, rfl, hb⟩ := hrel
              have HK := Aside0.mk hk
              have hx1 : wr.cell? (ad.add (L.length - 1)) = some (.int .i64 x) := pw_cell_below hb.out hx
              have hle := mvCnt_le L L' k
              obtain ⟨x0, x60⟩ := HX.out
              by_cases hlt : k < x.toNat
              · have hkx : (k : Int) < x := by omega
                have HS := Aside0.mk (l02Shelf_c (some ad) c L k wr (Kd.C_below HL.out hb.out) ⟨x, HMX.out, hkx⟩)
                have HS' := Aside0.mk (l02Shelf_c (some ad') c' L' k wr (Kd.C_below HL'.out hb.out) ⟨y, HMY.out, by rw [← HXY.out]; exact hkx⟩)
                have HN := Aside0.mk (show mvCnt L L' (k + 1) = mvCnt L L' k + (if shOf L k = shOf L' k then 0 else 1) from rfl)
                clear hk
                go_wp2_with fail
                refine HS.out.mono ?_; rintro _ w1 ⟨rfl, rfl⟩
                go_wp2_with fail
                refine HS'.out.mono ?_; rintro _ w1 ⟨rfl, rfl⟩
                generalize shOf L k = p at HN ⊢
                generalize shOf L' k = q at HN ⊢
                by_cases hpq : p = q
                · have hd : ((p : Int) != (q : Int)) = false := by simp [hpq]
                  have hd' : (p != q) = false := by simp [hpq]
                  rw [if_pos hpq] at HN
                  clear hpq
                  go_wp2_with fail
                  go_roundg (gk - 1)
                  case measure => have := HK.out; omega
                  case rel => exact ⟨k + 1, by have := HK.out; omega, by go_num, by rw [HN.out]; rfl, hb⟩
                · have hd : ((p : Int) != (q : Int)) = true := by simp; omega
                  have hd' : (p != q) = true := by simp; omega
                  rw [if_neg hpq] at HN
                  clear hpq
                  go_wp2_with fail
                  go_roundg (gk - 1)
                  case measure => have := HK.out; omega
                  case rel => exact ⟨k + 1, by have := HK.out; omega, by go_num, by rw [HN.out]; go_num, hb⟩
              · have hkx : ¬ ((k : Int) < x) := by omega
                have hke : k = x.toNat := by omega
                clear hk
                rw [← hke] at HE
                clear hke
                go_wp2
                go_ret2
                exact ⟨ret_two HE.out.1.symm HE.out.2.symm, hb.out⟩
          · have HE := Aside0.mk (mb_bad (a := L) (b := L') (e := 2) (by unfold mbE; rw [if_pos hll, g1, g2]; simp only [Bool.and_self, if_true]; rw [if_neg h0, hlx, hly, if_neg hxy]) (by decide))
            have bq : (x != y) = true := by simp [hxy]
            rw [g1] at HG
            rw [g2] at HG'
            clear g1 g2 hll hlx hly h0 hxy
            go_enter Try.func49, Try.ntmps49
            go_wp2_with fail
            go_quiet (first | (go_at_call_of 122 (Value.slice (some ad) L.length c); exact Calls.quiet_of_same (HG.out _ (Kd.C_drewN HL.out _))) | (go_at_call 122; exact Calls.quiet_of_same (HG'.out _ (Kd.C_drewN HL'.out _))))
            go_wp2
            go_ret2
            exact ⟨ret_two HE.out.1.symm HE.out.2.symm, bdrewN (Below.refl _ _) _⟩
  · have HE := Aside0.mk (mb_bad (a := L) (b := L') (e := 4) (by unfold mbE; rw [if_neg hll]) (by decide))
    have b0 : ((L.length : Int) != (L'.length : Int)) = true := by simp; omega
    have b0' : (L.length != L'.length) = true := by simpa using hll
    clear hll
    go_enter Try.func49, Try.ntmps49
    go_wp2
    go_ret2
    exact ⟨ret_two HE.out.1.symm HE.out.2.symm, Below.refl _ _⟩
theorem specMovedBooks_c (A A' : Option Addr) (c c' : Nat) (L L' : List Int) (w : World) (hL : (Kd.int .i64).C w A L.length L) (hL' : (Kd.int .i64).C w A' L'.length L') :
    Calls Try.prog 49 #[.slice A L.length c, .slice A' L'.length c'] w (Ret w (.tuple #[.int .i64 (mbV L L'), .int .i64 (mbE L L')])) := by
  by_cases h : L.length = 0 ∧ L'.length = 0
  · obtain rfl := List.eq_nil_of_length_eq_zero h.1
    obtain rfl := List.eq_nil_of_length_eq_zero h.2
    rw [mb_nil.1, mb_nil.2]
    exact specMoved0_c A A' c c' w hL hL'
  · by_cases h1 : L.length = 0
    · have h2 : L.length ≠ L'.length := fun e => h ⟨h1, by omega⟩
      exact specMovedNe_c A A' c c' L L' h2 w (Kd.C_max hL) (Kd.C_max hL')
    · exact specMoved1_c A A' c c' L L' ⟨h1⟩ w hL hL'
theorem Moved0_c (A A' : Option Addr) (c c' n : Nat) (w : World) (hn : n = 0) (hL : (Kd.int .i64).C w A n []) (hL' : (Kd.int .i64).C w A' n []) :
    Calls Try.prog 51 #[.slice A n c, .slice A' n c'] w (Ret w (.tuple #[.int .i64 0, .int .i64 0])) := by
  have HL := Aside0.mk hL
  have HL' := Aside0.mk hL'
  clear hL hL'
  have HG := Aside0.mk (fun A c W (h : (Kd.int .i64).C W A n []) => show Calls Try.prog 124 #[.slice A n c] W (Ret W (.bool true)) by
    subst hn
    exact isGrowing_c A c [] W h)
  have b0 : ((n : Int) != (n : Int)) = false := by simp
  have b1 : ((n : Int) == 0) = true := by simp; omega
  have b2 : ¬ ((0 : Int) < (n : Int)) := by omega
  have b3 : ¬ (0 < n) := by omega
  have b4 : (n : Int) ≤ 9223372036854775807 := by omega
  have b5 : decide (0 < n) = false := decide_eq_false b3
  clear hn
  go_enter Try.func51, Try.ntmps51
  go_wp2_with fail
  refine region_over (by kernel_rfl) (by kernel_rfl) ?_
  repeat (go_big_quiet_step (first | (go_at_call_of 124 (Value.slice A n c); exact Calls.over_of (HG.out A c _ (Kd.C_below HL.out (Over.h _)))) | (go_at_call 124; exact Calls.over_of (HG.out A' c' _ (Kd.C_below HL'.out (Over.h _))))))
  refine wpQuiet_nil ?_
  intro wq2 hw'
  have hq_wq2 := over_out hw'
  clear hw'
  have HB := Aside0.mk hq_wq2
  clear hq_wq2
  go_wp2_with fail
  go_ret2
  exact ⟨rfl, HB.out⟩
set_option maxHeartbeats 4000000 in
theorem Moved1_c (A A' : Option Addr) (c c' : Nat) (L L' : List Int) (hne : Aside0 (L.length ≠ 0)) (w : World) (hll : L'.length = L.length) (hL : (Kd.int .i64).C w A L.length L) (hL' : (Kd.int .i64).C w A' L.length L') :
    Calls Try.prog 51 #[.slice A L.length c, .slice A' L.length c'] w (Ret w (.tuple #[.int .i64 (mbV L L'), .int .i64 (mbE L L')])) := by
  have hm := Kd.C_max hL
  have HL := Aside0.mk hL
  have HL' := Aside0.mk hL'
  clear hL hL'
  have HG := Aside0.mk (fun W h => isGrowing_c A c L W h)
  have HG' := Aside0.mk (fun W (h : (Kd.int .i64).C W A' L.length L') => show Calls Try.prog 124 #[.slice A' L.length c'] W (Ret W (.bool (grow L'))) by
    have := isGrowing_c A' c' L' W (by rw [hll]; exact h)
    rwa [hll] at this)
  have HS := Aside0.mk (fun W h b => shelfOf_c A c L b W h)
  have HS' := Aside0.mk (fun W (h : (Kd.int .i64).C W A' L.length L') b => show Calls Try.prog 125 #[.slice A' L.length c', .int .i64 b] W (Ret W (.int .i64 (shOf L' b : Nat))) by
    have := shelfOf_c A' c' L' b W (by rw [hll]; exact h)
    rwa [hll] at this)
  have b0 : ((L.length : Int) != (L.length : Int)) = false := by simp
  cases g1 : grow L
  · have HE := Aside0.mk (mb_bad (a := L) (b := L') (e := 2) (by unfold mbE; rw [if_pos hll.symm, g1]; rfl) (by decide))
    rw [g1] at HG
    clear g1 hll
    go_enter Try.func51, Try.ntmps51
    go_wp2_with fail
    refine region_over (by kernel_rfl) (by kernel_rfl) ?_
    repeat (go_big_quiet_step (first | (go_at_call 124; exact Calls.over_of (HG.out _ (Kd.C_below HL.out (Over.h _))))))
    refine wpQuiet_nil ?_
    intro wq1 hw'
    have hq_wq1 := over_out hw'
    clear hw'
    have HB := Aside0.mk hq_wq1
    clear hq_wq1
    go_wp2_with fail
    go_ret2
    exact ⟨ret_two HE.out.1.symm HE.out.2.symm, HB.out⟩
  · cases g2 : grow L'
    · have HE := Aside0.mk (mb_bad (a := L) (b := L') (e := 2) (by unfold mbE; rw [if_pos hll.symm, g1, g2]; rfl) (by decide))
      rw [g1] at HG
      rw [g2] at HG'
      clear g1 g2 hll
      go_enter Try.func51, Try.ntmps51
      go_wp2_with fail
      refine region_over (by kernel_rfl) (by kernel_rfl) ?_
      repeat (go_big_quiet_step (first | (go_at_call_of 124 (Value.slice A L.length c); exact Calls.over_of (HG.out _ (Kd.C_below HL.out (Over.h _)))) | (go_at_call 124; exact Calls.over_of (HG'.out _ (Kd.C_below HL'.out (Over.h _))))))
      refine wpQuiet_nil ?_
      intro wq2 hw'
      have hq_wq2 := over_out hw'
      clear hw'
      have HB := Aside0.mk hq_wq2
      clear hq_wq2
      go_wp2_with fail
      go_ret2
      exact ⟨ret_two HE.out.1.symm HE.out.2.symm, HB.out⟩
    · have h0 : L.length ≠ 0 := hne.out
      have hlen : 0 < L.length := by omega
      obtain ⟨ad, x, rfl, hbk, hx⟩ := at_int' HL.out (L.length - 1) (by omega)
      obtain ⟨ad', y, rfl, hbk', hy⟩ := at_int' HL'.out (L.length - 1) (by omega)
      have HX := Aside0.mk (grow_last g1 hbk.out)
      have iw : IntKind.i64.wrap ((L.length : Int) - 1) = (L.length : Int) - 1 := by simp only [IntKind.wrap, IntKind.bits, IntKind.signed, Bool.true_and, decide_eq_true_eq, ge_iff_le]; split <;> omega
      have it : ((L.length : Int) - 1).toNat = L.length - 1 := by omega
      have i1 : (1 : Int) ≤ (L.length : Int) := by omega
      have bn : ((L.length : Int) == 0) = false := by simpa using h0
      have hlx := lastOf_at hbk.out
      have hly := lastOf_at (L := L') (x := y) (by rw [hll]; exact hbk'.out)
      have HS0 := Aside0.mk (show ∀ w', Below w.heap.size w w' → Below w.heap.size w w' ∧ w'.cell? (ad.add (L.length - 1)) = some (.int .i64 x) ∧ w'.cell? (ad'.add (L.length - 1)) = some (.int .i64 y) from fun w' h => ⟨h, pw_cell_below h hx, pw_cell_below h hy⟩)
      by_cases hxy : x = y
      · have hmE : mbE L L' = 0 := by unfold mbE; rw [if_pos hll.symm, g1, g2]; simp only [Bool.and_self, if_true]; rw [if_neg h0, hlx, hly, if_pos hxy]
        have hmV : mbV L L' = (mvCnt L L' x.toNat : Nat) := by unfold mbV; rw [if_pos hmE, if_neg h0, hlx]
        have HE := Aside0.mk (And.intro hmV hmE)
        have bq : (x != y) = false := by simp [hxy]
        rw [g1] at HG
        rw [g2] at HG'
        clear g1 g2 hll hmE hmV hlx hly h0 hxy
        have hxO : ∀ p : Over w, p.W.cell? (ad.add (L.length - 1)) = some (.int .i64 x) := Over.cell hx
        have hyO : ∀ p : Over w, p.W.cell? (ad'.add (L.length - 1)) = some (.int .i64 y) := Over.cell hy
        have d1 : decide (0 < L.length) = true := decide_eq_true hlen
        go_enter Try.func51, Try.ntmps51
        go_wp2_with fail
        refine region_over (by kernel_rfl) (by kernel_rfl) ?_
        repeat (go_big_quiet_step (first | (go_at_call_of 124 (Value.slice (some ad) L.length c); exact Calls.over_of (HG.out _ (Kd.C_below HL.out (Over.h _)))) | (go_at_call 124; exact Calls.over_of (HG'.out _ (Kd.C_below HL'.out (Over.h _))))))
        refine wpQuiet_nil ?_
        intro wq2 hw'
        have hq_wq2 := over_out hw'
        clear hw'
        have HB0 := Aside0.mk hq_wq2
        obtain ⟨_, hx1, hy1⟩ := HS0.out _ HB0.out
        clear hq_wq2 hxO hyO
        clear HG HG' HS0
        go_wp2_with fail
        clear hx1 bq bn
        go_loopg [7, 50] x.toNat (fun gk v6 v7 wr => ∃ k : Nat, k + gk = x.toNat ∧ v7 = .int .i64 k ∧ v6 = .int .i64 (mvCnt L L' k : Nat) ∧ Aside0 (Below w.heap.size w wr))
        case atStart => exact ⟨0, by omega, rfl, rfl, HB0⟩
        case round =>
          obtain ⟨k, hk, rfl, rfl, hb⟩ := hrel
          have HK := Aside0.mk hk
          have hle := mvCnt_le L L' k
          obtain ⟨x0, x60⟩ := HX.out
          by_cases hlt : k < x.toNat
          · have hkx : (k : Int) < x := by omega
            have HN := Aside0.mk (show mvCnt L L' (k + 1) = mvCnt L L' k + (if shOf L k = shOf L' k then 0 else 1) from rfl)
            clear hk
            go_wp2_with fail
            refine (HS.out _ (Kd.C_below HL.out hb.out) _).mono ?_; rintro _ w1 ⟨rfl, hb1⟩
            have HB1 := Aside0.mk (bstep hb.out hb1)
            clear hb1
            go_wp2_with fail
            refine (HS'.out _ (Kd.C_below HL'.out HB1.out) _).mono ?_; rintro _ w2 ⟨rfl, hb2⟩
            have HB2 := Aside0.mk (bstep HB1.out hb2)
            clear hb2
            generalize shOf L k = p at HN ⊢
            generalize shOf L' k = q at HN ⊢
            by_cases hpq : p = q
            · have hd : ((p : Int) != (q : Int)) = false := by simp [hpq]
              have hd' : (p != q) = false := by simp [hpq]
              rw [if_pos hpq] at HN
              clear hpq
              go_wp2_with fail
              go_roundg (gk - 1)
              case measure => have := HK.out; omega
              case rel => exact ⟨k + 1, by have := HK.out; omega, by go_num, by rw [HN.out]; rfl, HB2⟩
            · have hd : ((p : Int) != (q : Int)) = true := by simp; omega
              have hd' : (p != q) = true := by simp; omega
              rw [if_neg hpq] at HN
              clear hpq
              go_wp2_with fail
              go_roundg (gk - 1)
              case measure => have := HK.out; omega
              case rel => exact ⟨k + 1, by have := HK.out; omega, by go_num, by rw [HN.out]; go_num, HB2⟩
          · have hkx : ¬ ((k : Int) < x) := by omega
            have hke : k = x.toNat := by omega
            clear hk
            rw [← hke] at HE
            clear hke
            go_wp2
            go_ret2
            exact ⟨ret_two HE.out.1.symm HE.out.2.symm, hb.out⟩
      · have HE := Aside0.mk (mb_bad (a := L) (b := L') (e := 2) (by unfold mbE; rw [if_pos hll.symm, g1, g2]; simp only [Bool.and_self, if_true]; rw [if_neg h0, hlx, hly, if_neg hxy]) (by decide))
        have bq : (x != y) = true := by simp [hxy]
        rw [g1] at HG
        rw [g2] at HG'
        clear g1 g2 hll hlx hly h0 hxy
        have hxO : ∀ p : Over w, p.W.cell? (ad.add (L.length - 1)) = some (.int .i64 x) := Over.cell hx
        have hyO : ∀ p : Over w, p.W.cell? (ad'.add (L.length - 1)) = some (.int .i64 y) := Over.cell hy
        have d1 : decide (0 < L.length) = true := decide_eq_true hlen
        go_enter Try.func51, Try.ntmps51
        go_wp2_with fail
        refine region_over (by kernel_rfl) (by kernel_rfl) ?_
        repeat (go_big_quiet_step (first | (go_at_call_of 124 (Value.slice (some ad) L.length c); exact Calls.over_of (HG.out _ (Kd.C_below HL.out (Over.h _)))) | (go_at_call 124; exact Calls.over_of (HG'.out _ (Kd.C_below HL'.out (Over.h _))))))
        refine wpQuiet_nil ?_
        intro wq2 hw'
        have hq_wq2 := over_out hw'
        clear hw'
        have HB0 := Aside0.mk hq_wq2
        obtain ⟨_, hx1, hy1⟩ := HS0.out _ HB0.out
        clear hq_wq2 hxO hyO
        clear HG HG' HS0
        go_wp2_with fail
        go_ret2
        exact ⟨ret_two HE.out.1.symm HE.out.2.symm, HB0.out⟩
theorem MovedNe_c (A A' : Option Addr) (c c' : Nat) (L L' : List Int) (hll : L.length ≠ L'.length) (w : World) (hm : L.length ≤ 9223372036854775807) (hm' : L'.length ≤ 9223372036854775807) :
    Calls Try.prog 51 #[.slice A L.length c, .slice A' L'.length c'] w (Ret w (.tuple #[.int .i64 (mbV L L'), .int .i64 (mbE L L')])) := by
  have HE := Aside0.mk (mb_bad (a := L) (b := L') (e := 4) (by unfold mbE; rw [if_neg hll]) (by decide))
  have b0 : ((L'.length : Int) != (L.length : Int)) = true := by simp; omega
  have b0' : (L'.length != L.length) = true := by simp; omega
  clear hll
  go_enter Try.func51, Try.ntmps51
  go_wp2
  go_ret2
  exact ⟨ret_two HE.out.1.symm HE.out.2.symm, Below.refl _ _⟩
theorem MovedBooks_c (A A' : Option Addr) (c c' : Nat) (L L' : List Int) (w : World) (hL : (Kd.int .i64).C w A L.length L) (hL' : (Kd.int .i64).C w A' L'.length L') :
    Calls Try.prog 51 #[.slice A L.length c, .slice A' L'.length c'] w (Ret w (.tuple #[.int .i64 (mbV L L'), .int .i64 (mbE L L')])) := by
  by_cases h : L.length = L'.length
  · by_cases h1 : L.length = 0
    · obtain rfl := List.eq_nil_of_length_eq_zero h1
      obtain rfl := List.eq_nil_of_length_eq_zero h.symm
      rw [mb_nil.1, mb_nil.2]
      exact Moved0_c A A' c c' 0 w rfl hL hL'
    · rw [← h] at hL' ⊢
      exact Moved1_c A A' c c' L L' ⟨h1⟩ w h.symm hL hL'
  · exact MovedNe_c A A' c c' L L' h w (Kd.C_max hL) (Kd.C_max hL')
end Go.Proofs.Ytdippdkneeocfaa
