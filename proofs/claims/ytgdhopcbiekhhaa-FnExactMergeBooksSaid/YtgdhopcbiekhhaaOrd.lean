/- Orders of books are weak orders. -/
import Derived.Test.YtgdhopcbiekhhaaCmpD
import Derived.Test.YtgdhopcbiekhhaaSrt
namespace Go.Proofs.Ytgdhopcbiekhhaa
open Go.RowKit Go.Proofs.YtgdhopcbiekhhaaW.PrintWords Go.Proofs.YtgdhopcbiekhhaaW.PrintMore
set_option linter.unusedVariables false
set_option linter.unusedSimpArgs false
set_option maxRecDepth 100000

/-- A comparison with three outcomes, that orders. -/
structure Pre3 (c : Bk → Bk → Int) : Prop where
  anti : ∀ x y, c y x = -c x y
  le : ∀ x y z, c x y ≤ 0 → c y z ≤ 0 → c x z ≤ 0
theorem Pre3.num (g : Bk → Int) : Pre3 (fun a b => cmpI (g a) (g b)) := by
  refine ⟨fun x y => ?_, fun x y z h1 h2 => ?_⟩
  · simp only [cmpI]; (repeat' split) <;> omega
  · simp only [cmpI] at *; (repeat' split at *) <;> omega
theorem Pre3.neg {c : Bk → Bk → Int} (h : Pre3 c) : Pre3 (fun a b => -c a b) := by
  refine ⟨fun x y => ?_, fun x y z h1 h2 => ?_⟩
  · have := h.anti x y; omega
  · have a1 := h.anti x y
    have a2 := h.anti y z
    have a3 := h.anti x z
    have := h.le z y x (by omega) (by omega)
    omega
theorem Pre3.lex {c d : Bk → Bk → Int} (h : Pre3 c) (k : Pre3 d) : Pre3 (fun a b => if c a b = 0 then d a b else c a b) := by
  refine ⟨fun x y => ?_, fun x y z h1 h2 => ?_⟩
  · have a1 := h.anti x y
    have a2 := k.anti x y
    show (if c y x = 0 then d y x else c y x) = -(if c x y = 0 then d x y else c x y)
    by_cases e : c x y = 0
    · rw [if_pos e, if_pos (by omega)]; exact a2
    · rw [if_neg e, if_neg (by omega)]; exact a1
  · have a1 := h.anti x y
    have a2 := h.anti y z
    have a3 := h.anti x z
    have l1 := h.le x y z
    have l2 := h.le y z x
    have l3 := h.le z x y
    have l4 := k.le x y z
    change (if c x y = 0 then d x y else c x y) ≤ 0 at h1
    change (if c y z = 0 then d y z else c y z) ≤ 0 at h2
    show (if c x z = 0 then d x z else c x z) ≤ 0
    by_cases e1 : c x y = 0 <;> by_cases e2 : c y z = 0 <;> by_cases e3 : c x z = 0 <;> simp only [e1, e2, e3, if_true, if_false] at h1 h2 ⊢ <;> first | exact l4 h1 h2 | omega
theorem Pre3.congr {c d : Bk → Bk → Int} (h : Pre3 c) (e : ∀ x y, d x y = c x y) : Pre3 d := by
  refine ⟨fun x y => ?_, fun x y z h1 h2 => ?_⟩
  · rw [e, e]; exact h.anti x y
  · rw [e] at h1 h2 ⊢; exact h.le x y z h1 h2
theorem fld_pre (f : Int) : Pre3 (fldCmp f) := by
  refine Pre3.congr (Pre3.lex (Pre3.num (num0 f)) (Pre3.lex (Pre3.num (num1 f)) (Pre3.num (num2 f)))) (fun x y => ?_)
  unfold fldCmp cmp3
  simp only [cmpI_zero]
theorem sgn_pre (f : Int) : Pre3 (sgnCmp f) := by
  unfold sgnCmp
  by_cases h : f < 0
  · refine Pre3.congr (Pre3.neg (fld_pre (absF f))) (fun x y => ?_)
    rw [if_pos h]
  · refine Pre3.congr (fld_pre (absF f)) (fun x y => ?_)
    rw [if_neg h]
theorem cmpBy_pre : ∀ (L : List Int), Pre3 (cmpBy L)
  | [] => ⟨fun _ _ => rfl, fun _ _ _ _ _ => by simp [cmpBy]⟩
  | f :: r => Pre3.congr (Pre3.lex (sgn_pre f) (cmpBy_pre r)) (fun x y => rfl)
def ltBy (L : List Int) (a b : Bk) : Bool := decide (cmpBy L a b < 0)
theorem ltBy_wk (L : List Int) : Srt.Wk (ltBy L) := by
  have h := cmpBy_pre L
  refine ⟨fun x y h1 => ?_, fun x y z h1 h2 => ?_⟩
  · unfold ltBy at *
    have := h.anti x y
    simp only [decide_eq_true_eq, decide_eq_false_iff_not] at *
    omega
  · unfold ltBy at *
    have a1 := h.anti x y
    have a2 := h.anti y z
    have a3 := h.anti x z
    simp only [decide_eq_true_eq, decide_eq_false_iff_not] at *
    have := h.le z y x (by omega) (by omega)
    omega
def ltU (a b : Bk) : Bool := decide (cmpU a b < 0)
theorem ltU_wk : Srt.Wk ltU := ltBy_wk usualL
end Go.Proofs.Ytgdhopcbiekhhaa
