/- Books stand on shelves: WhereIs, BookAt; the program's and the reference's. -/
import Derived.Test.YtdippdkneeocfaaBadS
import Derived.StillTailTactics
import Derived.Still
import Derived.Deep.QuietTactic
import Derived.BigQuiet
namespace Go.Proofs.Ytdippdkneeocfaa
open Go.RowKit Go.Proofs.YtdippdkneeocfaaW.PrintWords Go.Proofs.YtdippdkneeocfaaW.PrintMore
set_option linter.unusedVariables false
set_option linter.unusedSimpArgs false
set_option maxRecDepth 100000

/-- How many books stand ahead of a shelf. -/
def bef (E : List Int) (s : Nat) : Int := if s = 0 then 0 else E.getD (s - 1) 0
theorem badGo_neg {k : Cs} {L : List Bk} {E : List Int} : ∀ (g s : Nat) (a : Int), badGo k L E g s a < 0 →
    (∀ j, s ≤ j → j < s + g → j < E.length ∧ ((if j = s then a else E.getD (j - 1) 0) ≤ E.getD j 0 ∧ E.getD j 0 ≤ L.length) ∧ fitL k j (subL L (if j = s then a else E.getD (j - 1) 0) (E.getD j 0)) = true) ∧
    (if g = 0 then a else E.getD (s + g - 1) 0) = L.length ∧ E.length ≤ k.hs.length
  | 0, s, a, h => by
    rw [badGo] at h
    split at h
    · rename_i h1
      exact ⟨fun j h2 h3 => by omega, by rw [if_pos rfl]; exact h1.1, h1.2⟩
    · omega
  | g + 1, s, a, h => by
    rw [badGo] at h
    split at h
    · rename_i h1
      obtain ⟨h2, h3, h4⟩ := badGo_neg g (s + 1) _ h
      refine ⟨fun j h5 h6 => ?_, ?_, h4⟩
      · by_cases e : j = s
        · subst e
          rw [if_pos rfl]
          exact h1
        · rw [if_neg e]
          have h7 := h2 j (by omega) (by omega)
          by_cases e2 : j = s + 1
          · subst e2
            rw [if_pos rfl] at h7
            simpa using h7
          · rw [if_neg e2] at h7
            exact h7
      · rw [if_neg (by omega)]
        by_cases e : g = 0
        · subst e
          rw [if_pos rfl] at h3
          simpa using h3
        · rw [if_neg e] at h3
          rw [← h3]
          congr 1
          omega
    · omega
structure LayP (k : Cs) (L : List Bk) (E : List Int) : Prop where
  n : E.length = k.hs.length
  s : ∀ j, j < E.length → (bef E j ≤ E.getD j 0 ∧ E.getD j 0 ≤ L.length) ∧ fitL k j (subL L (bef E j) (E.getD j 0)) = true
  last : bef E E.length = L.length
  case : vCase k = true
  list : vBooks L = true
theorem layP_of {k : Cs} {L : List Bk} {E : List Int} (h : layC k L E = 0) : LayP k L E := by
  unfold layC at h
  rcases eCL_split k L with ⟨hv, v1, v2⟩ | hv
  · rw [if_pos hv] at h
    split at h
    · cases h
    · rename_i hb
      have hb2 : badGo k L E k.hs.length 0 0 < 0 := by unfold badL at hb; omega
      obtain ⟨h1, h2, h3⟩ := badGo_neg _ _ _ hb2
      have hn := (vCase_bd v1).n.1
      have hlen : E.length = k.hs.length := by
        have := (h1 (k.hs.length - 1) (by omega) (by omega)).1
        omega
      refine ⟨hlen, fun j hj => ?_, ?_, v1, v2⟩
      · have := (h1 j (by omega) (by omega)).2
        unfold bef
        exact this
      · unfold bef
        rw [hlen, if_neg (by omega)]
        rw [if_neg (by omega)] at h2
        rw [← h2]
        congr 1
        omega
  · rw [hv] at h; cases h
theorem LayP.mono {k : Cs} {L : List Bk} {E : List Int} (h : LayP k L E) (d : Nat) : ∀ j, j + d ≤ E.length → bef E j ≤ bef E (j + d) := by
  induction d with
  | zero => intro j _; exact Int.le_refl _
  | succ d ih =>
    intro j hj
    have h1 := ih j (by omega)
    have h2 := (h.s (j + d) (by omega)).1.1
    have h3 : bef E (j + (d + 1)) = E.getD (j + d) 0 := by unfold bef; rw [if_neg (by omega)]; rfl
    omega
theorem LayP.nn {k : Cs} {L : List Bk} {E : List Int} (h : LayP k L E) (j : Nat) (hj : j ≤ E.length) : 0 ≤ bef E j ∧ bef E j ≤ L.length := by
  have h1 := h.mono j 0 (by omega)
  have h2 := h.mono (E.length - j) j (by omega)
  rw [show j + (E.length - j) = E.length by omega, h.last] at h2
  rw [Nat.zero_add] at h1
  exact ⟨h1, h2⟩
theorem bef_succ {E : List Int} {s : Nat} {e : Int} (h : E[s]? = some e) : bef E (s + 1) = e := by unfold bef; rw [if_neg (by omega)]; exact getD_of h
theorem LayP.any {k : Cs} {L : List Bk} {E : List Int} (h : LayP k L E) {b : Int} (hb : b < L.length) (h0 : 0 ≤ b) : ∃ e, e ∈ E ∧ b < e := by
  have h1 := h.last
  have hn := (vCase_bd h.case).n.1
  have hl : 0 < E.length := by have := h.n; omega
  obtain ⟨e, he⟩ : ∃ e, E[E.length - 1]? = some e := ⟨_, List.getElem?_eq_getElem (by omega)⟩
  have h3 := bef_succ he
  rw [show E.length - 1 + 1 = E.length by omega, h1] at h3
  exact ⟨e, mem_of he, by omega⟩
theorem sh_lt {E : List Int} {b : Int} (h : ∃ e, e ∈ E ∧ b < e) : shOf E b < E.length := by
  obtain ⟨e, he, hb⟩ := h
  exact List.findIdx_lt_length_of_exists ⟨e, he, decide_eq_true hb⟩
theorem sh_bef {E : List Int} {b : Int} (h0 : 0 ≤ b) : bef E (shOf E b) ≤ b ∨ E.length < shOf E b := by
  unfold bef
  by_cases hs : shOf E b = 0
  · rw [if_pos hs]; left; exact h0
  · rw [if_neg hs]
    left
    have hle : shOf E b ≤ E.length := List.findIdx_le_length
    have h1 : shOf E b - 1 < E.length := by omega
    have h2 : (decide (b < E[shOf E b - 1])) = false := by
      have := List.not_of_lt_findIdx (p := fun e => decide (b < e)) (xs := E) (i := shOf E b - 1) (by show shOf E b - 1 < shOf E b; omega)
      simpa using this
    rw [List.getD_eq_getElem?_getD, List.getElem?_eq_getElem h1]
    have := of_decide_eq_false h2
    show E[shOf E b - 1] ≤ b
    omega
set_option maxHeartbeats 1000000 in
theorem before_c (A : Option Addr) (c : Nat) (E : List Int) (s : Nat) (hs : s ≤ E.length) (w : World) (hE : (Kd.int .i64).C w A E.length E) :
    Calls Try.prog 137 #[.slice A E.length c, .int .i64 s] w (RetS w (.int .i64 (bef E s))) := by
  have hm := Kd.C_max hE
  by_cases h0 : s = 0
  · have HR := Aside0.mk (show bef E s = 0 by unfold bef; rw [if_pos h0])
    have b0 : ((s : Int) == 0) = true := by simp [h0]
    clear h0
    go_enter Try.func137, Try.ntmps137
    go_wp2
    go_ret
    exact ⟨ret_int HR.out.symm, rfl⟩
  · obtain ⟨ad, x, rfl, hbk, hx⟩ := at_int' hE (s - 1) (by omega)
    have HR := Aside0.mk (show bef E s = x by unfold bef; rw [if_neg h0]; exact getD_of hbk.out)
    have b0 : ((s : Int) == 0) = false := by simpa using h0
    have iw := wrap_pred s (by omega)
    have it : ((s : Int) - 1).toNat = s - 1 := by omega
    have i1 : (1 : Int) ≤ (s : Int) := by omega
    have i2 : (s : Int) < (E.length : Int) + 1 := by omega
    have i3 : (s : Int) - 1 < (E.length : Int) := by omega
    clear h0
    go_enter Try.func137, Try.ntmps137
    go_wp2
    go_ret
    exact ⟨ret_int HR.out.symm, rfl⟩
set_option maxHeartbeats 1000000 in
theorem l02From_c (A : Option Addr) (c : Nat) (E : List Int) (s : Nat) (hs : s ≤ E.length) (w : World) (hE : (Kd.int .i64).C w A E.length E) :
    Calls Try.prog 135 #[.slice A E.length c, .int .i64 s] w (RetS w (.int .i64 (bef E s))) := by
  have hm := Kd.C_max hE
  by_cases h0 : s = 0
  · have HR := Aside0.mk (show bef E s = 0 by unfold bef; rw [if_pos h0])
    have b0 : ((s : Int) == 0) = true := by simp [h0]
    clear h0
    go_enter Try.func135, Try.ntmps135
    go_wp2
    go_ret
    exact ⟨ret_int HR.out.symm, rfl⟩
  · obtain ⟨ad, x, rfl, hbk, hx⟩ := at_int' hE (s - 1) (by omega)
    have HR := Aside0.mk (show bef E s = x by unfold bef; rw [if_neg h0]; exact getD_of hbk.out)
    have b0 : ((s : Int) == 0) = false := by simpa using h0
    have iw := wrap_pred s (by omega)
    have it : ((s : Int) - 1).toNat = s - 1 := by omega
    have i1 : (1 : Int) ≤ (s : Int) := by omega
    have i2 : (s : Int) < (E.length : Int) + 1 := by omega
    have i3 : (s : Int) - 1 < (E.length : Int) := by omega
    clear h0
    go_enter Try.func135, Try.ntmps135
    go_wp2
    go_ret
    exact ⟨ret_int HR.out.symm, rfl⟩
/-- The width of the books from a to before b. -/
def wdS (L : List Bk) (a b : Int) : Int := (totL (subL L a b)).x
theorem subL_snoc {L : List Bk} {a : Int} {i : Nat} {x : Bk} (h0 : 0 ≤ a) (h1 : a ≤ i) (hx : L[i]? = some x) : subL L a ((i : Int) + 1) = subL L a i ++ [x] := by
  unfold subL
  rw [show ((i : Int) + 1).toNat = i + 1 by omega, Int.toNat_natCast, take_snoc hx]
  have hl := (List.getElem?_eq_some_iff.1 hx).1
  rw [List.drop_append_of_le_length (by rw [List.length_take]; omega)]
theorem tot_snoc (M : List Bk) (x : Bk) : totL (M ++ [x]) = (totL M).step x := by unfold totL; rw [List.foldl_append]; rfl
theorem wdS_nil {L : List Bk} {a : Int} : wdS L a a = 0 := by unfold wdS subL; rw [List.drop_eq_nil_of_le (by rw [List.length_take]; omega)]; rfl
theorem wdS_bd {L : List Bk} (h : FitOk L) (a b : Int) : 0 ≤ wdS L a b ∧ wdS L a b ≤ 6000 := by
  have h1 := h.sub (subL_sub L a b)
  have h2 := (h1.tot (subL L a b).length (Nat.le_refl _)).1
  rw [List.take_length] at h2
  have := h1.len
  unfold wdS
  omega
theorem wdS_step {L : List Bk} (h : FitOk L) {a : Int} {i : Nat} {x : Bk} (h0 : 0 ≤ a) (h1 : a ≤ i) (hx : L[i]? = some x) : wdS L a ((i : Int) + 1) = wdS L a i + x.wd := by
  have hb := wdS_bd h a i
  have hx2 := (h.bk x (mem_of hx)).1
  unfold wdS at hb ⊢
  rw [subL_snoc h0 h1 hx, tot_snoc]
  generalize totL (subL L a i) = t at hb
  simp only [T3.step]
  unfold wrap64
  omega
/-- Where a book stands. -/
def whC (k : Cs) (L : List Bk) (E : List Int) (b : Int) : Int := if layC k L E = 0 then (if inR b 0 ((L.length : Int) - 1) = true then 0 else 2) else layC k L E
def whS (k : Cs) (L : List Bk) (E : List Int) (b : Int) : Int := if whC k L E b = 0 then (shOf E b : Nat) else 0
def whP (k : Cs) (L : List Bk) (E : List Int) (b : Int) : Int := if whC k L E b = 0 then wdS L (bef E (shOf E b)) b else 0
theorem wh_bad {k : Cs} {L : List Bk} {E : List Int} {b e : Int} (h : whC k L E b = e) (he : e ≠ 0) : whS k L E b = 0 ∧ whP k L E b = 0 ∧ whC k L E b = e := ⟨by unfold whS; rw [h, if_neg he], by unfold whP; rw [h, if_neg he], h⟩
theorem wh_ok {k : Cs} {L : List Bk} {E : List Int} {b : Int} (h : whC k L E b = 0) : whS k L E b = (shOf E b : Nat) ∧ whP k L E b = wdS L (bef E (shOf E b)) b ∧ whC k L E b = 0 := ⟨by unfold whS; rw [h, if_pos rfl], by unfold whP; rw [h, if_pos rfl], h⟩
theorem info_i64' : ∃ i, Try.prog.info? 2 = some i ∧ i.size = 1 := by
  have h : (Try.prog.info? 2).map (fun i => i.size) = some 1 := by kernel_rfl
  cases e : Try.prog.info? 2 with
  | none => rw [e] at h; cases h
  | some i => rw [e] at h; exact ⟨i, rfl, by simpa using h⟩
set_option maxHeartbeats 1000000 in
theorem arr3_fst (x y z : Int) : ∀ W : World, (Instr.index 130 (.agg #[.int .i64 x, .int .i64 y, .int .i64 z]) (.int .i64 0)).run Try.prog W = .ok (.int .i64 x) W := by
  intro W
  obtain ⟨i, hi, hs⟩ := info_i64'
  simp [go_sem, Instr.index, Try.underlying130, hi, hs]
set_option maxHeartbeats 2000000 in
theorem WhereIs_c (k : Cs) (A : Option Addr) (c : Nat) (A1 : Option Addr) (c1 : Nat) (L : List Bk) (A2 : Option Addr) (c2 : Nat) (E : List Int) (b : Int) (hok : k.ok) (hoL : OkL L) (hc1 : L.length ≤ c1) (w : World) (hC : (Kd.int .i16).C w A k.hs.length k.hs) (hL : kBk.C w A1 L.length L) (hE : (Kd.int .i64).C w A2 E.length E) :
    Calls Try.prog 67 #[k.val A c, .slice A1 L.length c1, .slice A2 E.length c2, .int .i64 b] w (Ret w (.tuple #[.int .i64 (whS k L E b), .int .i64 (whP k L E b), .int .i64 (whC k L E b)])) := by
  have hm := Kd.C_max hC
  have hm1 := Kd.C_max hL
  have hm2 := Kd.C_max hE
  have HLC := Aside0.mk (show Calls Try.prog 136 #[k.val A c, .slice A1 L.length c1, .slice A2 E.length c2] (w.alloc (.cells #[.int .i16 k.wd, .int .i32 k.ld, .slice A k.hs.length c] 51)) (Ret (w.alloc (.cells #[.int .i16 k.wd, .int .i32 k.ld, .slice A k.hs.length c] 51)) (.int .i64 (layC k L E))) from layoutCode_c k A c A1 c1 L A2 c2 E hok hoL hc1 _ (Kd.C_alloc hC _) (Kd.C_alloc hL _) (Kd.C_alloc hE _))
  have HC := Aside0.mk hC
  have HL := Aside0.mk hL
  have HE2 := Aside0.mk hE
  have HB := Aside0.mk (balloc (Below.refl w.heap.size w) (.cells #[.int .i16 k.wd, .int .i32 k.ld, .slice A k.hs.length c] 51))
  have HX := Aside0.mk (CsAt.box w k A c 51)
  clear hC hL hE
  simp only [Cs.val] at HLC ⊢
  by_cases hv : layC k L E = 0
  · have HP := Aside0.mk (layP_of hv)
    have HW := Aside0.mk (fun W => within64_c b 0 ((L.length : Int) - 1) W)
    have iw := wrap_pred _ hm1
    cases v3 : inR b 0 ((L.length : Int) - 1)
    · have HR := Aside0.mk (wh_bad (k := k) (L := L) (E := E) (b := b) (e := 2) (by unfold whC; rw [if_pos hv, v3]; rfl) (by decide))
      rw [hv] at HLC
      rw [v3] at HW
      clear v3 hv
      obtain ⟨y0, y1, y2⟩ := HX.out
      go_enter Try.func67, Try.ntmps67
      go_wp2_with fail
      refine HLC.out.mono ?_; rintro _ w1 ⟨rfl, hb1⟩
      have HB1 := Aside0.mk (bstep HB.out hb1)
      have HX1 := Aside0.mk (HX.out.below hb1)
      clear hb1 y0 y1 y2
      obtain ⟨y0, y1, y2⟩ := HX1.out
      go_wp2_with fail
      refine (HW.out _).mono ?_; rintro _ w3 ⟨rfl, rfl⟩
      go_wp2_with fail
      go_ret3
      exact ⟨ret_three HR.out.1.symm HR.out.2.1.symm HR.out.2.2.symm, HB1.out⟩
    · obtain ⟨b1, b2⟩ := inR_iff.1 v3
      have HR := Aside0.mk (wh_ok (k := k) (L := L) (E := E) (b := b) (by unfold whC; rw [if_pos hv, v3]; rfl))
      have hany := HP.out.any (b := b) (by omega) b1
      have hsl := sh_lt hany
      have hbb := (sh_bef (E := E) b1).resolve_right (by omega)
      have hb0 := (HP.out.nn (shOf E b) (by omega)).1
      rw [hv] at HLC
      rw [v3] at HW
      obtain ⟨A', c', hcut, hc', hCC⟩ := cut_bk A1 c1 L (bef E (shOf E b)) b hb0 hbb (by omega) hc1
      have HCC := Aside0.mk hCC
      have HS := Aside0.mk (fun W h => shelfOf_c A2 c2 E b W h)
      have HF := Aside0.mk (fun W h => before_c A2 c2 E (shOf E b) (by omega) W h)
      have HT := Aside0.mk (fun W h => totals_c A' c' (subL L (bef E (shOf E b)) b) (fun x hx => hoL x ((subL_sub L _ _).subset hx)) W h)
      have HRR := Aside0.mk (show (totL (subL L (bef E (shOf E b)) b)).x = wdS L (bef E (shOf E b)) b from rfl)
      rw [← HRR.out] at HR
      clear v3 hv hCC hany HRR
      generalize shOf E b = s at HS HF HT HR HCC hcut hc' hsl hbb hb0
      generalize bef E s = a at HF HT HR HCC hcut hc' hbb hb0
      generalize subL L a b = M at HT HR HCC hcut hc'
      generalize totL M = t at HT HR
      simp only [T3.cells] at HT
      have hfst := arr3_fst t.x t.y t.z
      obtain ⟨y0, y1, y2⟩ := HX.out
      go_enter Try.func67, Try.ntmps67
      go_wp2_with fail
      refine HLC.out.mono ?_; rintro _ w1 ⟨rfl, hb1⟩
      have HB1 := Aside0.mk (bstep HB.out hb1)
      have HX1 := Aside0.mk (HX.out.below hb1)
      clear hb1 y0 y1 y2
      obtain ⟨y0, y1, y2⟩ := HX1.out
      go_wp2_with fail
      refine (HW.out _).mono ?_; rintro _ w3 ⟨rfl, rfl⟩
      go_wp2_with fail
      refine (HS.out _ (Kd.C_below HE2.out HB1.out)).mono ?_; rintro _ w3 ⟨rfl, hb3⟩
      have HB3 := Aside0.mk (bstep HB1.out hb3)
      clear hb3 y0 y1 y2
      go_wp2_with fail
      refine (HF.out _ (Kd.C_below HE2.out HB3.out)).mono ?_; rintro _ w4 ⟨rfl, rfl⟩
      go_wp2_with fail
      refine (HT.out _ (HCC.out _ (Kd.C_below HL.out HB3.out))).mono ?_; rintro _ w4 ⟨rfl, hb4⟩
      have HB4 := Aside0.mk (bstep HB3.out hb4)
      clear hb4
      go_wp2_with fail
      go_ret3
      exact ⟨ret_three HR.out.1.symm HR.out.2.1.symm HR.out.2.2.symm, HB4.out⟩
  · have HR := Aside0.mk (wh_bad (k := k) (L := L) (E := E) (b := b) (e := layC k L E) (by unfold whC; rw [if_neg hv]) hv)
    have bq : (layC k L E != 0) = true := by simpa using hv
    generalize layC k L E = e at HLC HR bq
    clear hv
    obtain ⟨y0, y1, y2⟩ := HX.out
    go_enter Try.func67, Try.ntmps67
    go_wp2_with fail
    refine HLC.out.mono ?_; rintro _ w1 ⟨rfl, hb1⟩
    have HB1 := Aside0.mk (bstep HB.out hb1)
    have HX1 := Aside0.mk (HX.out.below hb1)
    clear hb1 y0 y1 y2
    obtain ⟨y0, y1, y2⟩ := HX1.out
    go_wp2_with fail
    go_ret3
    exact ⟨ret_three HR.out.1.symm HR.out.2.1.symm HR.out.2.2.symm, HB1.out⟩
set_option maxHeartbeats 4000000 in
theorem specWhereIs_c (k : Cs) (A : Option Addr) (c : Nat) (A1 : Option Addr) (c1 : Nat) (L : List Bk) (A2 : Option Addr) (c2 : Nat) (E : List Int) (b : Int) (hok : k.ok) (hoL : OkL L) (hc1 : L.length ≤ c1) (w : World) (hC : (Kd.int .i16).C w A k.hs.length k.hs) (hL : kBk.C w A1 L.length L) (hE : (Kd.int .i64).C w A2 E.length E) :
    Calls Try.prog 66 #[k.val A c, .slice A1 L.length c1, .slice A2 E.length c2, .int .i64 b] w (Ret w (.tuple #[.int .i64 (whS k L E b), .int .i64 (whP k L E b), .int .i64 (whC k L E b)])) := by
  have hm := Kd.C_max hC
  have hm1 := Kd.C_max hL
  have hm2 := Kd.C_max hE
  have HLC := Aside0.mk (show Calls Try.prog 134 #[.pointer (some ⟨w.heap.size, 0, none⟩), .slice A1 L.length c1, .slice A2 E.length c2] (w.alloc (.cells #[.int .i16 k.wd, .int .i32 k.ld, .slice A k.hs.length c] 51)) (Ret (w.alloc (.cells #[.int .i16 k.wd, .int .i32 k.ld, .slice A k.hs.length c] 51)) (.int .i64 (layC k L E))) from l02Laid_c k A c _ A1 c1 L A2 c2 E hok hoL hc1 _ (CsAt.box w k A c 51) (Kd.C_alloc hC _) (Kd.C_alloc hL _) (Kd.C_alloc hE _))
  have HC := Aside0.mk hC
  have HL := Aside0.mk hL
  have HE2 := Aside0.mk hE
  have HB := Aside0.mk (balloc (Below.refl w.heap.size w) (.cells #[.int .i16 k.wd, .int .i32 k.ld, .slice A k.hs.length c] 51))
  have HX := Aside0.mk (CsAt.box w k A c 51)
  clear hC hL hE
  simp only [Cs.val] at HLC ⊢
  by_cases hv : layC k L E = 0
  · have HP := Aside0.mk (layP_of hv)
    have HW := Aside0.mk (fun W => l00In_c b 0 ((L.length : Int) - 1) W)
    have iw := wrap_pred _ hm1
    cases v3 : inR b 0 ((L.length : Int) - 1)
    · have HR := Aside0.mk (wh_bad (k := k) (L := L) (E := E) (b := b) (e := 2) (by unfold whC; rw [if_pos hv, v3]; rfl) (by decide))
      rw [hv] at HLC
      rw [v3] at HW
      clear v3 hv
      obtain ⟨y0, y1, y2⟩ := HX.out
      go_enter Try.func66, Try.ntmps66
      go_wp2_with fail
      refine HLC.out.mono ?_; rintro _ w1 ⟨rfl, hb1⟩
      have HB1 := Aside0.mk (bstep HB.out hb1)
      have HX1 := Aside0.mk (HX.out.below hb1)
      clear hb1 y0 y1 y2
      obtain ⟨y0, y1, y2⟩ := HX1.out
      go_wp2_with fail
      refine (HW.out _).mono ?_; rintro _ w3 ⟨rfl, rfl⟩
      go_wp2_with fail
      go_ret3
      exact ⟨ret_three HR.out.1.symm HR.out.2.1.symm HR.out.2.2.symm, HB1.out⟩
    · obtain ⟨b1, b2⟩ := inR_iff.1 v3
      have HR := Aside0.mk (wh_ok (k := k) (L := L) (E := E) (b := b) (by unfold whC; rw [if_pos hv, v3]; rfl))
      have hany := HP.out.any (b := b) (by omega) b1
      have hsl := sh_lt hany
      have hbb := (sh_bef (E := E) b1).resolve_right (by omega)
      have hb0 := (HP.out.nn (shOf E b) (by omega)).1
      rw [hv] at HLC
      rw [v3] at HW
      have HS := Aside0.mk (fun W h => l02Shelf_c A2 c2 E b W h hany)
      have HF := Aside0.mk (fun W h => l02From_c A2 c2 E (shOf E b) (by omega) W h)
      have HFO := Aside0.mk (FitOk.of HP.out.list)
      have hl60 := HFO.out.len
      clear v3 hv hany
      generalize shOf E b = s at HS HF HR hsl hbb hb0
      generalize bef E s = a at HF HR hbb hb0
      obtain ⟨y0, y1, y2⟩ := HX.out
      go_enter Try.func66, Try.ntmps66
      go_wp2_with fail
      refine HLC.out.mono ?_; rintro _ w1 ⟨rfl, hb1⟩
      have HB1 := Aside0.mk (bstep HB.out hb1)
      have HX1 := Aside0.mk (HX.out.below hb1)
      clear hb1 y0 y1 y2
      obtain ⟨y0, y1, y2⟩ := HX1.out
      go_wp2_with fail
      refine (HW.out _).mono ?_; rintro _ w3 ⟨rfl, rfl⟩
      go_wp2_with fail
      refine (HS.out _ (Kd.C_below HE2.out HB1.out)).mono ?_; rintro _ w3 ⟨rfl, rfl⟩
      go_wp2_with fail
      refine (HF.out _ (Kd.C_below HE2.out HB1.out)).mono ?_; rintro _ w4 ⟨rfl, rfl⟩
      clear y0 y1 y2
      go_wp2_with fail
      go_loopg [13, 14] (b - a).toNat (fun gk v13 v14 wr => ∃ i : Nat, ∃ q : Int, (i : Int) + (gk : Int) = b ∧ v14 = .int .i64 i ∧ v13 = .int .i64 q ∧ Aside0 (q = wdS L a i ∧ a ≤ (i : Int)) ∧ w1 = wr)
      case atStart => exact ⟨a.toNat, 0, by omega, by rw [Int.toNat_of_nonneg hb0], rfl, ⟨by rw [Int.toNat_of_nonneg hb0, wdS_nil], by omega⟩, rfl⟩
      case round =>
        obtain ⟨i, q, hk, rfl, rfl, hp, rfl⟩ := hrel
        have HK := Aside0.mk hk
        obtain ⟨q1, q2⟩ := wdS_bd HFO.out a i
        rw [← hp.out.1] at q1 q2
        by_cases hlt : (i : Int) < b
        · obtain ⟨ad, bk, rfl, hbk, x0, x1, x2, x3, x4, x5, x6, x7⟩ := at_bk (Kd.C_below HL.out HB1.out) i (by omega)
          obtain ⟨⟨u1, u2⟩, _⟩ := HFO.out.bk bk (mem_of hbk.out)
          have HN := Aside0.mk (show q + bk.wd = wdS L a ((i : Int) + 1) by rw [hp.out.1]; exact (wdS_step HFO.out hb0 hp.out.2 hbk.out).symm)
          have i0 : (0 : Int) ≤ (i : Int) := by omega
          have i1 : (i : Int) < (L.length : Int) := by omega
          clear hk
          go_wp2
          go_roundg (gk - 1)
          case measure => have := HK.out; omega
          case rel => exact ⟨i + 1, q + bk.wd, by have := HK.out; omega, by go_num, by go_num, ⟨by rw [HN.out]; rfl, by have := hp.out.2; omega⟩, rfl⟩
        · have HN := Aside0.mk (show q = wdS L a b by rw [hp.out.1]; congr 1; omega)
          clear hk
          go_wp2
          go_ret3
          exact ⟨ret_three HR.out.1.symm (by rw [HR.out.2.1, HN.out]) HR.out.2.2.symm, HB1.out⟩
  · have HR := Aside0.mk (wh_bad (k := k) (L := L) (E := E) (b := b) (e := layC k L E) (by unfold whC; rw [if_neg hv]) hv)
    have bq : (layC k L E != 0) = true := by simpa using hv
    have bq2 : (layC k L E == 0) = false := by simpa using hv
    generalize layC k L E = e at HLC HR bq bq2
    clear hv
    obtain ⟨y0, y1, y2⟩ := HX.out
    go_enter Try.func66, Try.ntmps66
    go_wp2_with fail
    refine HLC.out.mono ?_; rintro _ w1 ⟨rfl, hb1⟩
    have HB1 := Aside0.mk (bstep HB.out hb1)
    have HX1 := Aside0.mk (HX.out.below hb1)
    clear hb1 y0 y1 y2
    obtain ⟨y0, y1, y2⟩ := HX1.out
    go_wp2_with fail
    go_ret3
    exact ⟨ret_three HR.out.1.symm HR.out.2.1.symm HR.out.2.2.symm, HB1.out⟩
end Go.Proofs.Ytdippdkneeocfaa
