/- Texts of lists of books, in plain Lean: lines. -/
import Derived.Test.YtgibcacciedobaaDoorTxR
import Derived.Test.YtgibcacciedobaaDoorValid
import Derived.Lib.ParseIntBTie
namespace Go.Proofs.YtgibcacciedobaaDoor
open Go.RowKit Go.Proofs.YtgibcacciedobaaDoorW.PrintWords Go.Proofs.YtgibcacciedobaaDoorW.PrintMore
set_option linter.unusedVariables false
set_option linter.unusedSimpArgs false
set_option maxRecDepth 100000

/-- Lines, each ended by a newline. -/
def lnT : List Bs → Bs
  | [] => []
  | w :: r => w ++ 10 :: lnT r
theorem lnT_append (a b : List Bs) : lnT (a ++ b) = lnT a ++ lnT b := by
  induction a with
  | nil => rfl
  | cons w r ih => simp [lnT, ih]
theorem lnT_snoc (a : List Bs) (w : Bs) : lnT (a ++ [w]) = lnT a ++ (w ++ [10]) := by rw [lnT_append]; simp [lnT]
/-- Each text is lines, and a rest. -/
theorem lines_of : ∀ l : Bs, ∃ (ws : List Bs) (a : Bs), l = lnT ws ++ a ∧ (10 : UInt8) ∉ a ∧ (∀ w, w ∈ ws → (10 : UInt8) ∉ w) ∧ splitL 10 l = ws ++ [a] ∧ l.count 10 = ws.length
  | [] => ⟨[], [], rfl, by simp, by simp, rfl, rfl⟩
  | x :: l => by
    obtain ⟨ws, a, h1, h2, h3, h4, h5⟩ := lines_of l
    by_cases hx : x = 10
    · subst hx
      refine ⟨[] :: ws, a, by rw [h1]; rfl, h2, ?_, ?_, ?_⟩
      · intro w hw
        rcases List.mem_cons.1 hw with rfl | hw
        · simp
        · exact h3 w hw
      · rw [splitL, if_pos rfl, h4]; rfl
      · rw [List.count_cons_self, h5]; rfl
    · cases ws with
      | nil =>
        refine ⟨[], x :: a, by rw [h1]; rfl, ?_, by simp, ?_, ?_⟩
        · intro hm
          rcases List.mem_cons.1 hm with e | hm
          · exact hx e.symm
          · exact h2 hm
        · rw [splitL, if_neg hx, h4]; rfl
        · rw [List.count_cons_of_ne hx, h5]
      | cons w r =>
        refine ⟨(x :: w) :: r, a, by rw [h1]; rfl, h2, ?_, ?_, ?_⟩
        · intro v hv
          rcases List.mem_cons.1 hv with rfl | hv
          · intro hm
            rcases List.mem_cons.1 hm with e | hm
            · exact hx e.symm
            · exact h3 w (by simp) hm
          · exact h3 v (by simp [hv])
        · rw [splitL, if_neg hx, h4]; rfl
        · rw [List.count_cons_of_ne hx, h5]; rfl
theorem lnT_split {ws : List Bs} (h : ∀ w, w ∈ ws → (10 : UInt8) ∉ w) : splitL 10 (lnT ws) = ws ++ [[]] := by
  induction ws with
  | nil => rfl
  | cons w r ih => rw [lnT, splitL_cons _ (h w (by simp)), ih (fun v hv => h v (by simp [hv]))]; rfl
theorem bkT_no {b : Bk} (h : VB1 b) : (10 : UInt8) ∉ bkT b := by
  rw [bkT_eq]
  simp only [List.mem_append, List.mem_singleton, not_or]
  have hk : (10 : UInt8) ∉ mkB b := fun hm => absurd (mkB_small h hm).1 (by decide)
  repeat' apply And.intro
  all_goals first | exact not_dig (by decide) | exact hk | decide
/-- The text of a list. -/
def lsT (L : List Bk) : Bs := lnT (L.map bkT)
/-- A text is that of a list. -/
def RdLs (l : Bs) (L : List Bk) : Prop := L.length ≤ 60 ∧ (∀ b, b ∈ L → vBook b = true) ∧ splitL 10 l = L.map bkT ++ [[]]
theorem map_bkT_inj : ∀ {L M : List Bk}, (∀ b, b ∈ L → vBook b = true) → (∀ b, b ∈ M → vBook b = true) → L.map bkT = M.map bkT → L = M
  | [], [], _, _, _ => rfl
  | [], _ :: _, _, _, h => by cases h
  | _ :: _, [], _, _, h => by cases h
  | a :: L, b :: M, h1, h2, h => by
    simp only [List.map_cons, List.cons.injEq] at h
    rw [RdB.unique (l := bkT b) ⟨h1 a (by simp), h.1⟩ ⟨h2 b (by simp), rfl⟩, map_bkT_inj (fun x hx => h1 x (by simp [hx])) (fun x hx => h2 x (by simp [hx])) h.2]
theorem RdLs.unique {l : Bs} {L M : List Bk} (h : RdLs l L) (k : RdLs l M) : L = M := map_bkT_inj h.2.1 k.2.1 (List.append_cancel_right (h.2.2.symm.trans k.2.2))
theorem rdLs_self {L : List Bk} (hn : L.length ≤ 60) (h : ∀ b, b ∈ L → vBook b = true) : RdLs (lsT L) L :=
  ⟨hn, h, lnT_split (fun w hw => by obtain ⟨b, hb, rfl⟩ := List.mem_map.1 hw; exact bkT_no (vB1 (h b hb)))⟩
/-- How a list is read. -/
def LsR (l : Bs) (L : List Bk) (n err : Int) : Prop := (n = 0 ∧ RdLs l L) ∨ (n = err ∧ L = [] ∧ ∀ M, ¬ RdLs l M)
theorem LsR.unique {l : Bs} {L M : List Bk} {n m err : Int} (h : LsR l L n err) (h' : LsR l M m err) : L = M ∧ n = m := by
  rcases h with ⟨h1, h2⟩ | ⟨h1, h2, h3⟩ <;> rcases h' with ⟨k1, k2⟩ | ⟨k1, k2, k3⟩
  · exact ⟨h2.unique k2, by rw [h1, k1]⟩
  · exact absurd h2 (k3 _)
  · exact absurd k2 (h3 _)
  · exact ⟨by rw [h2, k2], by rw [h1, k1]⟩
theorem ls_ok {l : Bs} {L : List Bk} (h : splitL 10 l = L.map bkT ++ [[]]) (hn : L.length ≤ 60) (hv : ∀ b, b ∈ L → vBook b = true) (err : Int) : LsR l L 0 err := .inl ⟨rfl, hn, hv, h⟩
theorem ls_bad {l : Bs} {ws : List Bs} {a : Bs} (h : splitL 10 l = ws ++ [a]) (h' : a ≠ [] ∨ 60 < ws.length ∨ ∃ w, w ∈ ws ∧ ∀ b, ¬ RdB w b) (err : Int) : LsR l [] err err := by
  refine .inr ⟨rfl, rfl, fun M hM => ?_⟩
  obtain ⟨h1, h2, h3⟩ := hM
  rw [h] at h3
  obtain ⟨e1, e2⟩ := List.append_inj' h3 rfl
  simp only [List.cons.injEq, and_true] at e2
  rcases h' with h' | h' | ⟨w, hw, hb⟩
  · exact h' e2
  · rw [e1, List.length_map] at h'
    omega
  · rw [e1] at hw
    obtain ⟨b, hb1, hb2⟩ := List.mem_map.1 hw
    exact hb b ⟨h2 b hb1, hb2⟩
theorem lnT_len {k : Nat} : ∀ {ws : List Bs}, (∀ w, w ∈ ws → w.length ≤ k) → (lnT ws).length ≤ (k + 1) * ws.length
  | [], _ => by simp [lnT]
  | w :: r, h => by
    have h1 := h w (by simp)
    have h2 := lnT_len (k := k) (ws := r) (fun v hv => h v (by simp [hv]))
    rw [lnT, List.length_append, List.length_cons, List.length_cons, Nat.mul_add]
    omega
theorem lsT_len {L : List Bk} (hn : L.length ≤ 60) (h : ∀ b, b ∈ L → vBook b = true) : (lsT L).length ≤ 1860 := by
  have := lnT_len (k := 30) (ws := L.map bkT) (fun w hw => by obtain ⟨b, hb, rfl⟩ := List.mem_map.1 hw; exact bkT_len (vB1 (h b hb)))
  rw [List.length_map] at this
  unfold lsT
  omega
end Go.Proofs.YtgibcacciedobaaDoor
