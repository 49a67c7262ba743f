/- Layouts in plain Lean: where books stand, what they cover, which ones have moved; Where books stand: what the law asks, in plain Lean. -/
import Derived.Test.YtdippdkneeocfaaBestX
import Derived.Test.YtdippdkneeocfaaPosX
import Derived.StillTailTactics
import Derived.Still
import Derived.Deep.QuietTactic
import Derived.BigQuiet
import Derived.Deep.RegionHeld3
namespace Go.Proofs.Ytdippdkneeocfaa
open Go.RowKit Go.Proofs.YtdippdkneeocfaaW.PrintWords Go.Proofs.YtdippdkneeocfaaW.PrintMore
set_option linter.unusedVariables false
set_option linter.unusedSimpArgs false
set_option maxRecDepth 100000

section
variable {k : Cs} {L : List Bk} {E : List Int}
/-- The shelf of a book. -/
theorem sh_in (h : LayP k L E) {b : Int} (h0 : 0 ≤ b) (hb : b < L.length) : shOf E b < E.length ∧ bef E (shOf E b) ≤ b ∧ b < E.getD (shOf E b) 0 := by
  have h1 := sh_lt (h.any hb h0)
  refine ⟨h1, ?_, ?_⟩
  · rcases sh_bef (E := E) h0 with h2 | h2
    · exact h2
    · omega
  · have h2 : decide (b < E[shOf E b]) = true := List.findIdx_getElem (p := fun e => decide (b < e)) (w := h1)
    rw [List.getD_eq_getElem?_getD, List.getElem?_eq_getElem h1]
    exact of_decide_eq_true h2
theorem wdS_mono (hL : FitOk L) {a : Int} (h0 : 0 ≤ a) {i : Nat} (h1 : a ≤ i) : ∀ d, i + d ≤ L.length → wdS L a (i : Int) ≤ wdS L a ((i + d : Nat) : Int)
  | 0, _ => Int.le_refl _
  | d + 1, h => by
    have h2 := wdS_mono hL h0 h1 d (by omega)
    have hx : L[i + d]? = some L[i + d] := List.getElem?_eq_getElem (by omega)
    have h3 := wdS_step hL (a := a) (i := i + d) h0 (by omega) hx
    have h4 := hL.bk _ (List.getElem_mem (show i + d < L.length by omega))
    rw [show ((i + (d + 1) : Nat) : Int) = ((i + d : Nat) : Int) + 1 by omega, h3]
    omega
/-- The book that covers a place. -/
theorem baGo_at (hL : FitOk L) {a pl : Int} (h0 : 0 ≤ a) {i : Nat} {b : Bk} (hb : L[i]? = some b) (h1 : wdS L a (i : Int) ≤ pl) (h2 : pl < wdS L a (i : Int) + b.wd) :
    ∀ (d j g : Nat), j + d = i → i < j + g → a ≤ j → baGo L pl g j (wdS L a (j : Int)) = (i : Int)
  | 0, j, g, e, hg, ha => by
    have : j = i := by omega
    subst this
    exact baGo_hit (by omega) hb h2
  | d + 1, j, g, e, hg, ha => by
    have hi := (List.getElem?_eq_some_iff.1 hb).1
    have hx : L[j]? = some L[j] := List.getElem?_eq_getElem (by omega)
    have h3 := wdS_step hL (a := a) h0 ha hx
    have h4 := wdS_mono hL (a := a) (i := j + 1) h0 (by omega) (i - (j + 1)) (by omega)
    rw [show j + 1 + (i - (j + 1)) = i by omega, show ((j + 1 : Nat) : Int) = (j : Int) + 1 by omega, h3] at h4
    rw [baGo_next (by omega) hx (by omega), ← h3, show (j : Int) + 1 = ((j + 1 : Nat) : Int) by omega]
    exact baGo_at hL h0 hb h1 h2 d (j + 1) (g - 1) (by omega) (by omega) (by omega)
/-- A book covers the places from where it is told to stand. -/
theorem ba_at (h : LayP k L E) {i : Nat} {b : Bk} (hb : L[i]? = some b) (pl : Int) (h1 : wdS L (bef E (shOf E i)) (i : Int) ≤ pl) (h2 : pl < wdS L (bef E (shOf E i)) (i : Int) + b.wd) :
    baV k L E (shOf E i : Nat) pl = (i : Int) ∧ baC k L E (shOf E i : Nat) pl = 0 := by
  have hL := FitOk.of h.list
  have hi := (List.getElem?_eq_some_iff.1 hb).1
  obtain ⟨s1, s2, s3⟩ := sh_in h (b := (i : Int)) (by omega) (by omega)
  have hn := h.n
  have hnn := (h.nn (shOf E i) (by omega)).1
  have hs := h.s _ s1
  have hw := (wdS_bd hL (bef E (shOf E i)) (i : Int)).1
  have hfree : wdS L (bef E (shOf E i)) (i : Int) + b.wd ≤ k.wd := by
    rw [← wdS_step hL hnn s2 hb]
    have h3 := wdS_mono hL (a := bef E (shOf E i)) (i := i + 1) hnn (by omega) ((E.getD (shOf E i) 0).toNat - (i + 1)) (by omega)
    rw [show i + 1 + ((E.getD (shOf E i) 0).toNat - (i + 1)) = (E.getD (shOf E i) 0).toNat by omega] at h3
    have h4 : ((E.getD (shOf E i) 0).toNat : Int) = E.getD (shOf E i) 0 := by omega
    rw [h4] at h3
    have h5 := hs.2
    unfold fitL fitT at h5
    simp only [Bool.and_eq_true, decide_eq_true_eq] at h5
    have h6 : wdS L (bef E (shOf E i)) (E.getD (shOf E i) 0) = (totL (subL L (bef E (shOf E i)) (E.getD (shOf E i) 0))).x := rfl
    rw [show ((i : Int) + 1) = ((i + 1 : Nat) : Int) by omega]
    omega
  have hin : baIn k (shOf E i : Nat) pl = true := by
    unfold baIn
    rw [Bool.and_eq_true, inR_iff, inR_iff]
    omega
  have hr : baR L E ((shOf E i : Nat) : Int).toNat pl = (i : Int) := by
    rw [Int.toNat_natCast]
    unfold baR
    have := baGo_at hL (a := bef E (shOf E i)) hnn hb h1 h2 (i - (bef E (shOf E i)).toNat) (bef E (shOf E i)).toNat (E.getD (shOf E i) 0 - bef E (shOf E i)).toNat (by omega) (by omega) (by omega)
    rw [Int.toNat_of_nonneg hnn, wdS_nil] at this
    exact this
  exact ba_hit (fun r hr => ba_ok (layC_of h) hin hr) hr
theorem wh_at (h : LayP k L E) {i : Nat} (hi : i < L.length) : whS k L E i = (shOf E i : Nat) ∧ whP k L E i = wdS L (bef E (shOf E i)) (i : Int) ∧ whC k L E i = 0 := by
  refine wh_ok ?_
  unfold whC
  rw [if_pos (layC_of h), if_pos]
  rw [inR_iff]
  omega
end
/-- What the search for a class tells. -/
theorem scP_ex (L : List Bk) (E : List Int) (cl : Int) : ∀ m, ((∀ j, j < m → (L.getD j zBk).c ≠ cl) ∧ scP L E cl m = (-1, -1)) ∨ ∃ j0 j1, j0 < m ∧ j1 < m ∧ (L.getD j0 zBk).c = cl ∧ (L.getD j1 zBk).c = cl ∧ (∀ j, j < m → (L.getD j zBk).c = cl → j0 ≤ j ∧ j ≤ j1) ∧ scP L E cl m = (((shOf E j0 : Nat) : Int), ((shOf E j1 : Nat) : Int))
  | 0 => .inl ⟨fun j h => by omega, rfl⟩
  | m + 1 => by
    by_cases hc : (L.getD m zBk).c = cl
    · right
      rw [scP, if_pos hc]
      rcases scP_ex L E cl m with ⟨h1, h2⟩ | ⟨j0, j1, h1, h2, h3, h4, h5, h6⟩
      · refine ⟨m, m, by omega, by omega, hc, hc, fun j hj hcj => ?_, by rw [h2]; rfl⟩
        by_cases e : j = m
        · omega
        · exact absurd hcj (h1 j (by omega))
      · refine ⟨j0, m, by omega, by omega, h3, hc, fun j hj hcj => ?_, by rw [h6, if_neg (by show ¬ ((shOf E j0 : Nat) : Int) < 0; omega)]⟩
        by_cases e : j = m
        · omega
        · have := h5 j (by omega) hcj
          omega
    · rw [scP, if_neg hc]
      rcases scP_ex L E cl m with ⟨h1, h2⟩ | ⟨j0, j1, h1, h2, h3, h4, h5, h6⟩
      · left
        refine ⟨fun j hj => ?_, h2⟩
        by_cases e : j = m
        · rw [e]; exact hc
        · exact h1 j (by omega)
      · right
        refine ⟨j0, j1, by omega, by omega, h3, h4, fun j hj hcj => ?_, h6⟩
        by_cases e : j = m
        · rw [e] at hcj; exact absurd hcj hc
        · exact h5 j (by omega) hcj
/-- The least, the greatest shelf of a class among m books, x at first. -/
def LoP (L : List Bk) (E : List Int) (cl : Int) (x : Int) (m : Nat) (lo hi : Int) : Prop :=
  (lo = x ∨ ∃ j, j < m ∧ (L.getD j zBk).c = cl ∧ lo = (shOf E j : Nat)) ∧ (hi = x ∨ ∃ j, j < m ∧ (L.getD j zBk).c = cl ∧ hi = (shOf E j : Nat)) ∧ lo ≤ x ∧ x ≤ hi ∧ ∀ j, j < m → (L.getD j zBk).c = cl → lo ≤ (shOf E j : Nat) ∧ (shOf E j : Nat) ≤ hi
theorem LoP.start (L : List Bk) (E : List Int) (cl : Int) (x : Int) : LoP L E cl x 0 x x := ⟨.inl rfl, .inl rfl, Int.le_refl _, Int.le_refl _, fun j h => by omega⟩
theorem LoP.skip {L : List Bk} {E : List Int} {cl x lo hi : Int} {m : Nat} (h : LoP L E cl x m lo hi) (hc : (L.getD m zBk).c ≠ cl) : LoP L E cl x (m + 1) lo hi := by
  obtain ⟨h1, h2, h3, h4, h5⟩ := h
  refine ⟨?_, ?_, h3, h4, fun j hj hcj => ?_⟩
  · rcases h1 with h | ⟨j, a, b, c⟩
    · exact .inl h
    · exact .inr ⟨j, by omega, b, c⟩
  · rcases h2 with h | ⟨j, a, b, c⟩
    · exact .inl h
    · exact .inr ⟨j, by omega, b, c⟩
  · by_cases e : j = m
    · rw [e] at hcj; exact absurd hcj hc
    · exact h5 j (by omega) hcj
theorem LoP.step {L : List Bk} {E : List Int} {cl x lo hi : Int} {m : Nat} (h : LoP L E cl x m lo hi) (hc : (L.getD m zBk).c = cl) : LoP L E cl x (m + 1) (if ((shOf E m : Nat) : Int) < lo then (shOf E m : Nat) else lo) (if hi < ((shOf E m : Nat) : Int) then (shOf E m : Nat) else hi) := by
  obtain ⟨h1, h2, h3, h4, h5⟩ := h
  refine ⟨?_, ?_, by split <;> omega, by split <;> omega, fun j hj hcj => ?_⟩
  · split
    · exact .inr ⟨m, by omega, hc, rfl⟩
    · rcases h1 with h | ⟨j, a, b, c⟩
      · exact .inl h
      · exact .inr ⟨j, by omega, b, c⟩
  · split
    · exact .inr ⟨m, by omega, hc, rfl⟩
    · rcases h2 with h | ⟨j, a, b, c⟩
      · exact .inl h
      · exact .inr ⟨j, by omega, b, c⟩
  · by_cases e : j = m
    · subst e
      constructor <;> split <;> omega
    · have := h5 j (by omega) hcj
      constructor <;> split <;> omega
theorem LoP.done {L : List Bk} {E : List Int} {cl lo hi : Int} {i n : Nat} (hi' : i < n) (hc : (L.getD i zBk).c = cl) (h : LoP L E cl (shOf E i : Nat) n lo hi) : scP L E cl n = (lo, hi) ∧ 0 ≤ hi ∧ lo ≤ (shOf E i : Nat) ∧ ((shOf E i : Nat) : Int) ≤ hi := by
  obtain ⟨h1, h2, h3, h4, h5⟩ := h
  refine ⟨?_, by omega, h3, h4⟩
  rcases scP_ex L E cl n with ⟨a, _⟩ | ⟨j0, j1, a0, a1, c0, c1, hm, he⟩
  · exact absurd hc (a i hi')
  · rw [he]
    have b0 := h5 j0 a0 c0
    have b1 := h5 j1 a1 c1
    have m0 : ∀ j, j < n → (L.getD j zBk).c = cl → (shOf E j0 : Nat) ≤ shOf E j ∧ shOf E j ≤ shOf E j1 := fun j hj hcj => by
      have := hm j hj hcj
      exact ⟨sh_mono E (by omega), sh_mono E (by omega)⟩
    have mi := m0 i hi' hc
    have e0 : lo = (shOf E j0 : Nat) := by
      rcases h1 with h | ⟨j, x, y, z⟩
      · omega
      · have := m0 j x y; omega
    have e1 : hi = (shOf E j1 : Nat) := by
      rcases h2 with h | ⟨j, x, y, z⟩
      · omega
      · have := m0 j x y; omega
    rw [e0, e1]
/-- Books that have moved. -/
theorem lay_grow {k : Cs} {L : List Bk} {E : List Int} (h : LayP k L E) : grow E = true ∧ lastOf E = L.length := by
  have hL := FitOk.of h.list
  have hn := (vCase_bd h.case).n.1
  have hl := h.n
  constructor
  · unfold grow
    rw [grF_iff]
    refine ⟨pw_of_adj (fun j x y hx hy => ?_), fun x hx => ?_⟩
    · have hj := (List.getElem?_eq_some_iff.1 hy).1
      have := (h.s (j + 1) hj).1.1
      rw [getD_of hy] at this
      have e : bef E (j + 1) = x := bef_succ hx
      omega
    · obtain ⟨j, hj⟩ := List.mem_iff_getElem?.1 hx
      have hl := (List.getElem?_eq_some_iff.1 hj).1
      have h1 := (h.s j hl).1
      have h2 := (h.nn j (by omega)).1
      rw [getD_of hj] at h1
      have := hL.len
      omega
  · have h1 := h.last
    unfold bef at h1
    rw [if_neg (by omega)] at h1
    obtain ⟨x, hx⟩ : ∃ x, E[E.length - 1]? = some x := ⟨_, List.getElem?_eq_getElem (by omega)⟩
    rw [lastOf_at hx, ← h1, getD_of hx]
theorem mv_lay {k : Cs} {L : List Bk} {E F : List Int} (h : LayP k L E) (h' : LayP k L F) : mbE E F = 0 ∧ mbV E F = (mvCnt E F L.length : Nat) := by
  obtain ⟨g1, g2⟩ := lay_grow h
  obtain ⟨f1, f2⟩ := lay_grow h'
  have hn := (vCase_bd h.case).n.1
  have hl := h.n
  have e : mbE E F = 0 := by
    unfold mbE
    rw [if_pos (by rw [h.n, h'.n]), if_pos (by rw [g1, f1]; rfl), if_neg (by omega), if_pos (by rw [g2, f2])]
  refine ⟨e, ?_⟩
  unfold mbV
  rw [if_pos e, if_neg (by omega), g2, Int.toNat_natCast]
theorem mv_same (E : List Int) (n : Nat) : mvCnt E E n = 0 := by
  induction n with
  | zero => rfl
  | succ n ih => rw [mvCnt, ih, if_pos rfl]
theorem mv_comm (E F : List Int) (n : Nat) : mvCnt E F n = mvCnt F E n := by
  induction n with
  | zero => rfl
  | succ n ih =>
    rw [mvCnt, mvCnt, ih]
    by_cases e : shOf E n = shOf F n
    · rw [if_pos e, if_pos e.symm]
    · rw [if_neg e, if_neg (fun h => e h.symm)]
theorem LoP.ex (L : List Bk) (E : List Int) (cl x : Int) : ∀ m, ∃ lo hi, LoP L E cl x m lo hi
  | 0 => ⟨x, x, LoP.start L E cl x⟩
  | m + 1 => by
    obtain ⟨lo, hi, h⟩ := LoP.ex L E cl x m
    by_cases hc : (L.getD m zBk).c = cl
    · exact ⟨_, _, h.step hc⟩
    · exact ⟨_, _, h.skip hc⟩
theorem getD_bk {L : List Bk} {i : Nat} {b : Bk} (h : L[i]? = some b) : L.getD i zBk = b := by rw [List.getD_eq_getElem?_getD, h]; rfl
theorem sc_at {k : Cs} {L : List Bk} {E : List Int} (h : LayP k L E) {i : Nat} {b : Bk} (hb : L[i]? = some b) :
    ∃ f l : Int, scF k L E b.c = f ∧ scL k L E b.c = l ∧ scC k L E b.c = 0 ∧ scP L E b.c L.length = (f, l) ∧ f ≤ (shOf E i : Nat) ∧ ((shOf E i : Nat) : Int) ≤ l ∧ -1 ≤ f ∧ l ≤ E.length := by
  have hi := (List.getElem?_eq_some_iff.1 hb).1
  obtain ⟨lo, hi2, hl⟩ := LoP.ex L E b.c (shOf E i : Nat) L.length
  obtain ⟨h1, h2, h3, h4⟩ := LoP.done hi (by rw [getD_bk hb]) hl
  obtain ⟨s1, s2, s3⟩ := sc_some (layC_of h) h1 (by omega)
  have hle := scP_le L E b.c L.length
  rw [h1] at hle
  exact ⟨lo, hi2, s1, s2, s3, h1, h3, h4, hle.1, hle.2.2⟩
def shS (E : List Int) (i : Nat) : List Int := (List.range i).map (fun (j : Nat) => ((shOf E (j : Int) : Nat) : Int))
theorem shS_succ (E : List Int) (i : Nat) : shS E (i + 1) = shS E i ++ [((shOf E i : Nat) : Int)] := by unfold shS; rw [List.range_succ, List.map_append]; rfl
theorem shS_len (E : List Int) (i : Nat) : (shS E i).length = i := by unfold shS; rw [List.length_map, List.length_range]
theorem shS_at {E : List Int} {n i : Nat} (h : i < n) : (shS E n)[i]? = some ((shOf E i : Nat) : Int) := by
  unfold shS
  rw [List.getElem?_map, List.getElem?_range h]
  rfl
theorem mv_step (F E : List Int) (i : Nat) : mvCnt F E (i + 1) = mvCnt F E i + (if shOf F i = shOf E i then 0 else 1) := rfl
end Go.Proofs.Ytdippdkneeocfaa
