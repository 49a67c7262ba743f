/- Runs of rows of books: the plain laws. -/
import Derived.Test.YtgdhopcbiekhhaaOut
namespace Go.Proofs.Ytgdhopcbiekhhaa
open Go.RowKit Go.Proofs.YtgdhopcbiekhhaaW.PrintWords Go.Proofs.YtgdhopcbiekhhaaW.PrintMore
set_option linter.unusedVariables false
set_option linter.unusedSimpArgs false
set_option maxRecDepth 100000

def startAt (L : List Bk) (i : Nat) : Bool := decide (i = 0) || outAt L i
def runsN (L : List Bk) (k : Nat) : List Int := ((List.range k).filter (startAt L)).map Int.ofNat
def runsL (L : List Bk) : List Int := runsN L L.length
theorem runsN_yes {L : List Bk} {k : Nat} (h : startAt L k = true) : runsN L (k + 1) = runsN L k ++ [(k : Int)] := by
  unfold runsN
  rw [List.range_succ, List.filter_append, List.filter_cons_of_pos h, List.map_append]
  rfl
theorem runsN_no {L : List Bk} {k : Nat} (h : startAt L k = false) : runsN L (k + 1) = runsN L k := by
  unfold runsN
  rw [List.range_succ, List.filter_append, List.filter_cons_of_neg (by simp [h])]
  simp
theorem runsN_len (L : List Bk) (k : Nat) : (runsN L k).length ≤ k := by
  unfold runsN
  rw [List.length_map]
  exact Nat.le_trans (List.length_filter_le _ _) (by simp)
theorem runsN_mem {L : List Bk} {k : Nat} {x : Int} (h : x ∈ runsN L k) : 0 ≤ x ∧ x < (k : Int) := by
  unfold runsN at h
  obtain ⟨n, hn, rfl⟩ := List.mem_map.1 h
  have := List.mem_range.1 (List.mem_filter.1 hn).1
  simp only [Int.ofNat_eq_natCast]
  omega
theorem outFrom_filter (L : List Bk) : ∀ (g k : Nat), outFrom L k g = match (List.range' k g).filter (outAt L) with
    | [] => -1
    | x :: _ => (x : Int) := by
  intro g
  induction g with
  | zero => intro k; rfl
  | succ g ih =>
    intro k
    rw [outFrom, List.range'_succ]
    cases h : outAt L k with
    | true => rw [if_pos rfl, List.filter_cons_of_pos h]
    | false => rw [if_neg (by decide), List.filter_cons_of_neg (by simp [h])]; exact ih (k + 1)
theorem runsL_cons {L : List Bk} (h : 0 < L.length) : runsL L = 0 :: ((List.range' 1 (L.length - 1)).filter (outAt L)).map Int.ofNat := by
  unfold runsL runsN
  obtain ⟨n, hn⟩ : ∃ n, L.length = n + 1 := ⟨L.length - 1, by omega⟩
  rw [hn, List.range_eq_range', List.range'_succ, List.filter_cons_of_pos (by rfl), List.map_cons]
  simp only [Nat.zero_add, Nat.add_sub_cancel]
  congr 2
  apply List.filter_congr
  intro x hx
  have := (List.mem_range'_1.1 hx).1
  unfold startAt
  rw [decide_eq_false (by omega), Bool.false_or]
theorem runsL_nil {L : List Bk} (h : L.length = 0) : runsL L = [] := by
  unfold runsL runsN
  rw [h]; rfl
theorem runs_few {L : List Bk} : (runsL L).length < 2 ↔ outOf L < 0 := by
  rcases Nat.eq_zero_or_pos L.length with h | h
  · rw [runsL_nil h]
    unfold outOf
    rw [h]
    simp [outFrom]
  · rw [runsL_cons h]
    unfold outOf
    rw [outFrom_filter]
    cases (List.range' 1 (L.length - 1)).filter (outAt L) with
    | nil => simp
    | cons x r => simp; omega
theorem runs_second {L : List Bk} (h : ¬ outOf L < 0) : (runsL L)[1]? = some (outOf L) := by
  have h2 : ¬ (runsL L).length < 2 := fun e => h (runs_few.1 e)
  rcases Nat.eq_zero_or_pos L.length with h0 | h0
  · rw [runsL_nil h0] at h2; simp at h2
  · rw [runsL_cons h0] at h2 ⊢
    unfold outOf
    rw [outFrom_filter]
    revert h2
    cases (List.range' 1 (L.length - 1)).filter (outAt L) with
    | nil => simp
    | cons x r => simp
/-- How many of M come behind b. -/
def lowIn (b : Bk) (M : List Bk) : Nat := (M.filter (fun a => decide (cmpU b a < 0))).length
theorem lowIn_yes {b a : Bk} {M : List Bk} {k : Nat} (h : M[k]? = some a) (hc : cmpU b a < 0) : lowIn b (M.take (k + 1)) = lowIn b (M.take k) + 1 := by
  unfold lowIn
  rw [take_snoc h, List.filter_append, List.length_append, List.filter_cons_of_pos (by simpa using hc)]
  rfl
theorem lowIn_no {b a : Bk} {M : List Bk} {k : Nat} (h : M[k]? = some a) (hc : ¬ cmpU b a < 0) : lowIn b (M.take (k + 1)) = lowIn b (M.take k) := by
  unfold lowIn
  rw [take_snoc h, List.filter_append, List.length_append, List.filter_cons_of_neg (by simpa using hc)]
  rfl
theorem lowIn_le (b : Bk) (M : List Bk) : lowIn b M ≤ M.length := List.length_filter_le _ _
/-- The pairs out of order among the first k. -/
def pairsN (L : List Bk) : Nat → Nat
  | 0 => 0
  | k + 1 => pairsN L k + (match L[k]? with
    | some b => lowIn b (L.take k)
    | none => 0)
theorem pairsN_next {L : List Bk} {k : Nat} {b : Bk} (h : L[k]? = some b) : pairsN L (k + 1) = pairsN L k + lowIn b (L.take k) := by rw [pairsN, h]
theorem pairsN_le (L : List Bk) (k : Nat) : pairsN L k ≤ L.length * k := by
  induction k with
  | zero => exact Nat.zero_le _
  | succ k ih =>
    rw [pairsN, Nat.mul_succ]
    have : (match L[k]? with
      | some b => lowIn b (L.take k)
      | none => 0) ≤ L.length := by
      cases L[k]? with
      | none => exact Nat.zero_le _
      | some b => exact Nat.le_trans (lowIn_le _ _) (List.length_take_le' _ _)
    omega
def pairsL (L : List Bk) : Int := (pairsN L L.length : Nat)
/-- The longest of the gaps among the first k + 1 numbers. -/
def gapN (own : List Int) : Nat → Int × Int
  | 0 => (0, 0)
  | k + 1 => match own[k]?, own[k + 1]? with
    | some a, some b => if (gapN own k).2 < b - a then (a, b - a) else gapN own k
    | _, _ => gapN own k
theorem gapN_next {own : List Int} {k : Nat} {a b : Int} (h : own[k]? = some a) (h' : own[k + 1]? = some b) : gapN own (k + 1) = if (gapN own k).2 < b - a then (a, b - a) else gapN own k := by
  rw [gapN, h, h']
def longest (L : List Bk) : Int × Int := gapN (runsL L ++ [(L.length : Int)]) (runsL L).length
theorem gapN_bound {own : List Int} {m : Int} (h : ∀ x ∈ own, 0 ≤ x ∧ x ≤ m) (hm : 0 ≤ m) (k : Nat) : 0 ≤ (gapN own k).1 ∧ (gapN own k).1 ≤ m ∧ 0 ≤ (gapN own k).2 ∧ (gapN own k).2 ≤ m := by
  induction k with
  | zero => simp [gapN, hm]
  | succ k ih =>
    rw [gapN]
    cases h1 : own[k]? with
    | none => exact ih
    | some a =>
      cases h2 : own[k + 1]? with
      | none => exact ih
      | some b =>
        simp only
        have ha := h a (List.mem_of_getElem? h1)
        have hb := h b (List.mem_of_getElem? h2)
        split
        · simp only; omega
        · exact ih
end Go.Proofs.Ytgdhopcbiekhhaa
