/- Texts of layouts and of numbers, in plain Lean. -/
import Derived.Test.YtgibcacciedobaaDoorTxP
import Derived.Test.YtgibcacciedobaaDoorScal
import Derived.Lib.Join
namespace Go.Proofs.YtgibcacciedobaaDoor
open Go.RowKit Go.Proofs.YtgibcacciedobaaDoorW.PrintWords Go.Proofs.YtgibcacciedobaaDoorW.PrintMore
set_option linter.unusedVariables false
set_option linter.unusedSimpArgs false
set_option maxRecDepth 100000

def lyT (E : List Int) : Bs := joinL 44 (E.map dg)
def plainE (E : List Int) : Bool := inR E.length 1 12 && E.all (fun x => inR x 0 60)
structure PlE (E : List Int) : Prop where
  n : 1 ≤ E.length ∧ E.length ≤ 12
  x : ∀ x, x ∈ E → 0 ≤ x ∧ x ≤ 60
theorem plE {E : List Int} (h : plainE E = true) : PlE E := by
  simp only [plainE, inR, Bool.and_eq_true, decide_eq_true_eq, List.all_eq_true] at h
  exact ⟨by omega, h.2⟩
theorem PlE.plain {E : List Int} (h : PlE E) : plainE E = true := by
  simp only [plainE, inR, Bool.and_eq_true, decide_eq_true_eq, List.all_eq_true]
  exact ⟨by have := h.n; omega, h.x⟩
def RdL (l : Bs) (E : List Int) : Prop := plainE E = true ∧ lyT E = l
theorem no44 {E : List Int} : ∀ w, w ∈ E.map dg → (44 : UInt8) ∉ w := by
  intro w hw
  obtain ⟨x, _, rfl⟩ := List.mem_map.1 hw
  exact not_dig (by decide)
theorem rdl_words {l : Bs} {E : List Int} (h : RdL l E) : splitL 44 l = E.map dg := by
  rw [← h.2]
  exact splitL_join (fun e => by have h1 := (plE h.1).n; have := congrArg List.length e; rw [List.length_map, List.length_nil] at this; omega) no44
theorem RdL.unique {l : Bs} {E F : List Int} (h : RdL l E) (h' : RdL l F) : E = F :=
  map_dg_inj (fun x hx => ((plE h.1).x x hx).1) (fun x hx => ((plE h'.1).x x hx).1) (by rw [← rdl_words h, ← rdl_words h'])
/-- How a layout is read. -/
def LyR (l : Bs) (E : List Int) (n err : Int) : Prop := (n = 0 ∧ RdL l E) ∨ (n = err ∧ E = [] ∧ ∀ F, ¬ RdL l F)
theorem LyR.unique {l : Bs} {E F : List Int} {n m err : Int} (h : LyR l E n err) (h' : LyR l F m err) : E = F ∧ n = m := by
  rcases h with ⟨h1, h2⟩ | ⟨h1, h2, h3⟩ <;> rcases h' with ⟨k1, k2⟩ | ⟨k1, k2, k3⟩
  · exact ⟨h2.unique k2, by rw [h1, k1]⟩
  · exact absurd h2 (k3 _)
  · exact absurd k2 (h3 _)
  · exact ⟨by rw [h2, k2], by rw [h1, k1]⟩
theorem rdl_many {l : Bs} (h : 12 < (splitL 44 l).length) (F : List Int) : ¬ RdL l F := fun hr => by
  rw [rdl_words hr, List.length_map] at h
  have := (plE hr.1).n
  omega
/-- The program's word is no number of a layout. -/
theorem rdl_bad {l w : Bs} (hw : w ∈ splitL 44 l) (h : (rdOk w && inR (rdN w) 0 60) = false) (F : List Int) : ¬ RdL l F := fun hr => by
  rw [rdl_words hr] at hw
  obtain ⟨x, hx, rfl⟩ := List.mem_map.1 hw
  have hx := (plE hr.1).x x hx
  obtain ⟨e1, e2⟩ := rd_dg hx.1 (by omega)
  rw [e1, e2] at h
  simp [inR] at h
  omega
theorem rdl_all {l : Bs} (hn : (splitL 44 l).length ≤ 12) (h : ∀ w, w ∈ splitL 44 l → (rdOk w && inR (rdN w) 0 60) = true) : RdL l ((splitL 44 l).map rdN) := by
  have hw : ∀ w, w ∈ splitL 44 l → dg (rdN w) = w ∧ 0 ≤ rdN w ∧ rdN w ≤ 60 := by
    intro w hw
    have := h w hw
    simp only [Bool.and_eq_true, inR, decide_eq_true_eq] at this
    exact ⟨rd_back this.1 this.2.1, this.2⟩
  have e : ((splitL 44 l).map rdN).map dg = splitL 44 l := by
    rw [List.map_map]
    conv => rhs; rw [← List.map_id (splitL 44 l)]
    exact List.map_congr_left (fun w h => (hw w h).1)
  refine ⟨PlE.plain ⟨⟨?_, by rw [List.length_map]; exact hn⟩, ?_⟩, ?_⟩
  · rw [List.length_map]
    exact List.length_pos_iff.2 (splitL_ne _ _)
  · intro x hx
    obtain ⟨w, h1, rfl⟩ := List.mem_map.1 hx
    exact (hw w h1).2
  · unfold lyT
    rw [e]
    exact joinL_split 44 l
/-- The reference's word is no number. -/
theorem rdl_numNone {l w : Bs} (hw : w ∈ splitL 44 l) (h : numL w = none) (F : List Int) : ¬ RdL l F := fun hr => by
  rw [rdl_words hr] at hw
  obtain ⟨x, hx, rfl⟩ := List.mem_map.1 hw
  have hx := (plE hr.1).x x hx
  rw [numL_dg hx.1 (by omega)] at h
  cases h
/-- The number of a word that the reference has read. -/
def nmL (w : Bs) : Int := ((numL w).getD 0 : Nat)
theorem rdl_num {l : Bs} (h : ∀ w, w ∈ splitL 44 l → ∃ n, numL w = some n) : lyT ((splitL 44 l).map nmL) = l := by
  have e : ((splitL 44 l).map nmL).map dg = splitL 44 l := by
    rw [List.map_map]
    conv => rhs; rw [← List.map_id (splitL 44 l)]
    exact List.map_congr_left (fun w hw => by
      obtain ⟨n, hn⟩ := h w hw
      show dg (nmL w) = w
      unfold nmL
      rw [hn]
      exact numL_back hn)
  unfold lyT
  rw [e]
  exact joinL_split 44 l
theorem rdl_notPlain {l : Bs} (h : ∀ w, w ∈ splitL 44 l → ∃ n, numL w = some n) (hp : plainE ((splitL 44 l).map nmL) = false) (F : List Int) : ¬ RdL l F := fun hr => by
  have e := rdl_words hr
  have : (splitL 44 l).map nmL = F := by
    rw [e, List.map_map]
    conv => rhs; rw [← List.map_id F]
    exact List.map_congr_left (fun x hx => by
      have hx := (plE hr.1).x x hx
      show nmL (dg x) = x
      unfold nmL
      rw [numL_dg hx.1 (by omega)]
      show ((x.toNat : Nat) : Int) = x
      omega)
  rw [this, hr.1] at hp
  cases hp
theorem lyT_len {E : List Int} (h : PlE E) : (lyT E).length ≤ 40 := by
  have h1 : ∀ w, w ∈ E.map dg → w.length ≤ 2 := by
    intro w hw
    obtain ⟨x, hx, rfl⟩ := List.mem_map.1 hw
    have := h.x x hx
    exact dg_len 1 this.1 (by omega)
  have h2 := joinL_len (c := 44) h1
  rw [List.length_map] at h2
  have := h.n
  unfold lyT
  omega
end Go.Proofs.YtgibcacciedobaaDoor
