/- Places in sorted rows of books: the plain laws. -/
import Derived.Test.YtgdhopcbiekhhaaSorted
import Derived.Test.YtgdhopcbiekhhaaOrd
namespace Go.Proofs.Ytgdhopcbiekhhaa
open Go.RowKit Go.Proofs.YtgdhopcbiekhhaaW.PrintWords Go.Proofs.YtgdhopcbiekhhaaW.PrintMore
set_option linter.unusedVariables false
set_option linter.unusedSimpArgs false
set_option maxRecDepth 100000

theorem outAt_lt (L : List Bk) (j : Nat) : outAt L j = Srt.ltAt ltU L j (j - 1) := by
  unfold outAt Srt.ltAt
  cases L[j]? <;> cases L[j - 1]? <;> rfl
theorem seg_of_adj {α : Type} {lt : α → α → Bool} (hw : Srt.Wk lt) {L : List α} (h : ∀ j, 1 ≤ j → j < L.length → Srt.ltAt lt L j (j - 1) = false) : Srt.Seg lt L 0 L.length := by
  intro i j _ hij hj
  obtain ⟨d, rfl⟩ : ∃ d, j = i + 1 + d := ⟨j - i - 1, by omega⟩
  induction d with
  | zero => exact h (i + 1) (by omega) hj
  | succ d ih =>
    have h1 := ih (by omega) (by omega)
    have h2 := h (i + 1 + (d + 1)) (by omega) hj
    exact Srt.ltAt_ntr hw hj (j := i + 1 + d) (by omega) (by omega) h2 h1
theorem isS_up {L : List Bk} (h : isS L = true) : Srt.Up ltU L := by
  refine Srt.seg_all (seg_of_adj ltU_wk fun j h1 h2 => ?_)
  rw [← outAt_lt]
  exact (isS_iff L).1 h j h1 h2
theorem up_isS {L : List Bk} (h : Srt.Up ltU L) : isS L = true := by
  refine (isS_iff L).2 fun j h1 h2 => ?_
  have := Srt.up_seg (A := []) (B := []) h
  simp only [List.nil_append, List.append_nil, List.length_nil, Nat.zero_add] at this
  rw [outAt_lt]
  exact this (j - 1) j (Nat.zero_le _) (by omega) h2
/-- A test that, once it is so, stays so. -/
theorem findIdx_at {α : Type} {L : List α} {p : α → Bool} {k : Nat} (hk : k ≤ L.length) (h1 : ∀ x, x ∈ L.drop k → p x = true) (h2 : ∀ x, x ∈ L.take k → p x = false) : L.findIdx p = k := by
  rcases Nat.lt_or_ge k L.length with h | h
  · rw [List.findIdx_eq h]
    refine ⟨h1 _ ?_, fun j hj => h2 _ (List.mem_take_iff_getElem.2 ⟨j, by omega, rfl⟩)⟩
    rw [List.mem_drop_iff_getElem]
    exact ⟨0, by omega, by simp⟩
  · have : k = L.length := by omega
    subst this
    rw [List.findIdx_eq_length]
    intro x hx
    exact h2 x (by rwa [List.take_length])
theorem idx_of {α : Type} (L : List α) (p : α → Bool) : (if idxF L p < 0 then (L.length : Int) else idxF L p) = (L.findIdx p : Nat) := by
  unfold idxF
  by_cases h : L.any p = true
  · rw [if_pos h, if_neg (by omega)]
  · rw [if_neg h, if_pos (by omega)]
    congr 1
    symm
    rw [List.findIdx_eq_length]
    intro x hx
    cases e : p x
    · rfl
    · exact absurd (List.any_eq_true.2 ⟨x, hx, e⟩) h
/-- The place of a book in a sorted row. -/
def placeOf (b : Bk) (L : List Bk) : Nat := L.findIdx (ltU b)
theorem placeOf_eq {L : List Bk} {b : Bk} {k : Nat} (hu : Srt.Up ltU L) (hk : k ≤ L.length) (h1 : ∀ x, x ∈ L.drop k → ltU b x = true) (h2 : k = 0 ∨ ∃ y, L[k - 1]? = some y ∧ ltU b y = false) : placeOf b L = k := by
  refine findIdx_at hk h1 fun x hx => ?_
  rcases h2 with h2 | ⟨y, hy, hyb⟩
  · subst h2; simp at hx
  · have hk0 : 0 < k := by
      rcases Nat.eq_zero_or_pos k with e | e
      · subst e; simp at hx
      · exact e
    obtain ⟨i, hi, rfl⟩ := List.mem_take_iff_getElem.1 hx
    have hyl := (List.getElem?_eq_some_iff.1 hy)
    obtain ⟨hl, rfl⟩ := hyl
    by_cases e : i = k - 1
    · subst e; exact hyb
    · have := List.pairwise_iff_getElem.1 hu i (k - 1) (by omega) hl (by omega)
      exact ltU_wk.ntr _ _ _ hyb this
theorem cmpU_class {a b : Bk} (h : ltU b a = false) : a.c ≤ b.c := by
  have e : sgnCmp 1 b a = cmpI b.c a.c := by
    unfold sgnCmp
    rw [if_neg (by decide), show absF 1 = 1 by decide, fldCmp_one (by decide)]
    rfl
  have e2 : cmpU b a = if cmpI b.c a.c = 0 then cmpBy [2, 3] b a else cmpI b.c a.c := by rw [← e]; rfl
  rcases Int.lt_or_le b.c a.c with h3 | h3
  · exfalso
    have h4 : ltU b a = true := by
      unfold ltU
      rw [e2, cmpI_lt h3]
      rfl
    rw [h4] at h; cases h
  · exact h3
/-- Counted from the front, as long as it is so. -/
theorem count_findIdx {L : List Bk} (hu : Srt.Up ltU L) (n : Int) : (L.filter (fun b => decide (b.c < n))).length = L.findIdx (fun b => decide (n ≤ b.c)) := by
  induction L with
  | nil => rfl
  | cons x L ih =>
    have hp := List.pairwise_cons.1 hu
    by_cases h : x.c < n
    · rw [List.filter_cons_of_pos (by simpa using h), List.length_cons, ih hp.2, List.findIdx_cons]
      rw [decide_eq_false (by omega)]; rfl
    · rw [List.filter_cons_of_neg (by simpa using h), List.findIdx_cons, decide_eq_true (by omega)]
      rw [List.filter_eq_nil_iff.2]
      · rfl
      · intro y hy
        have := cmpU_class (hp.1 y hy)
        simp; omega
end Go.Proofs.Ytgdhopcbiekhhaa
