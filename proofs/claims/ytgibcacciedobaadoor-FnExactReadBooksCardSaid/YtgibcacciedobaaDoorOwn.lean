/- Rows that a law's call owns: they stay while other rows are written. No condition. -/
import Derived.Test.YtgibcacciedobaaDoorRow
import Derived.Test.YtgibcacciedobaaDoorWApart
namespace Go.Proofs.YtgibcacciedobaaDoor
open Go.RowKit Go.Proofs.YtgibcacciedobaaDoorW.PrintWords Go.Proofs.YtgibcacciedobaaDoorW.PrintMore
set_option linter.unusedVariables false
set_option linter.unusedSimpArgs false
/-- A row made since w0, in a block of its own. -/
def Own {α : Type} (d : Kd α) (e : Nat) (w0 w : World) (v : Value) (xs : List α) : Prop := d.R e w w0.heap.size (fun k => some k = v.ownBlock) v xs
/-- Two rows in different blocks. -/
def Apart (u v : Value) : Prop := ∀ k, u.ownBlock = some k → v.ownBlock ≠ some k
theorem Apart.symm {u v : Value} (h : Apart u v) : Apart v u := fun k hk hu => h k hu hk
section
variable {α β : Type} {d : Kd α} {d' : Kd β} {e e' : Nat} {w0 w w' : World} {u v : Value} {xs : List α} {ys : List β}
theorem Own.mk' {w1 : World} {ok : Nat → Prop} (hE : d.E = []) (h : d.R e w w1.heap.size ok v xs) (hB : w0.heap.size ≤ w1.heap.size) : Own d e w0 w v xs := Kd.R_tight hE (Kd.R_lower h hB)
theorem Own.below (h : Own d e w0 w v xs) (hb : Below w.heap.size w w') : Own d e w0 w' v xs := Kd.R_below h hb
theorem Own.grown (h : Own d e w0 w v xs) (hg : w.grownBy w' u.ownBlock) (ha : Apart v u) : Own d e w0 w' v xs := Kd.R_grown h hg (fun k hk he => ha k hk.symm he.symm)
theorem Own.reads {A : Option Addr} {n c : Nat} (h : Own d e w0 w (.slice A n c) xs) : d.C w A xs.length xs := (Kd.R_reads' h).2.2
theorem Own.open (h : Own d e w0 w v xs) : ∃ A c, v = .slice A xs.length c ∧ xs.length ≤ c := by
  obtain ⟨A, c, h1, h2, _⟩ := Kd.R_reads h
  exact ⟨A, c, h1, h2⟩
theorem Own.len {A : Option Addr} {n c : Nat} (h : Own d e w0 w (.slice A n c) xs) : n = xs.length := (Kd.R_reads' h).1
theorem Apart.new {ok : Nat → Prop} (h : Own d e w0 w u xs) (k : d'.R e' w' w.heap.size ok v ys) : Apart u v := fun b hb hv => by
  have h1 := Kd.R_lt h b hb
  have h2 := Kd.R_base k b hv
  omega
theorem Own.mark (h : Own d e w0 w v xs) (hB : Below w0.heap.size w0 w) (hg : w.grownBy w' v.ownBlock) : Below w0.heap.size w0 w' := pw_below_grown hB _ hB.size hg (fun k hk => Kd.R_base h k hk)
end
theorem kBk_E : kBk.E = [] := rfl
theorem kInt_E (k : IntKind) : (Kd.int k).E = [] := rfl
/-- n numbers from k on. -/
def upI (k : Int) : Nat → List Int
  | 0 => []
  | n + 1 => k :: upI (k + 1) n
theorem upI_len (k : Int) (n : Nat) : (upI k n).length = n := by
  induction n generalizing k with
  | zero => rfl
  | succ n ih => simp [upI, ih]
theorem upI_snoc (k : Int) (n : Nat) : upI k (n + 1) = upI k n ++ [k + n] := by
  induction n generalizing k with
  | zero => simp [upI]
  | succ n ih =>
    rw [upI, ih (k + 1), upI]
    simp only [List.cons_append, List.cons.injEq, true_and]
    congr 2
    omega
theorem upI_at (k : Int) {n i : Nat} (h : i < n) : (upI k n)[i]? = some (k + i) := by
  induction n generalizing k i with
  | zero => omega
  | succ n ih =>
    rw [upI]
    cases i with
    | zero => simp
    | succ i =>
      rw [List.getElem?_cons_succ, ih (k + 1) (by omega)]
      congr 1
      omega
/-- What stands behind i stores. -/
theorem upI_set {L : List Int} {k : Int} {i : Nat} (h : i < L.length) : (upI k i ++ L.drop i).set i (k + i) = upI k (i + 1) ++ L.drop (i + 1) := by
  rw [List.set_append_right _ _ (by rw [upI_len]; exact Nat.le_refl _), upI_len, Nat.sub_self, upI_snoc, List.drop_eq_getElem_cons h, List.set_cons_zero]
  simp
end Go.Proofs.YtgibcacciedobaaDoor
