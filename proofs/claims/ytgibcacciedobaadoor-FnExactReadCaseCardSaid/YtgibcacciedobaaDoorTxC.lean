/- Texts of cases, in plain Lean. -/
import Derived.Test.YtgibcacciedobaaDoorTxP
import Derived.Test.YtgibcacciedobaaDoorCsValid
import Derived.Lib.Join
namespace Go.Proofs.YtgibcacciedobaaDoor
open Go.RowKit Go.Proofs.YtgibcacciedobaaDoorW.PrintWords Go.Proofs.YtgibcacciedobaaDoorW.PrintMore
set_option linter.unusedVariables false
set_option linter.unusedSimpArgs false
set_option maxRecDepth 100000

def csWs (k : Cs) : List Bs := dg k.wd :: dg k.ld :: k.hs.map dg
def csT (k : Cs) : Bs := joinL 32 (csWs k)
structure VC1 (k : Cs) : Prop where
  wd : 1 ≤ k.wd ∧ k.wd ≤ 2000
  ld : 1 ≤ k.ld ∧ k.ld ≤ 200000
  n : 1 ≤ k.hs.length ∧ k.hs.length ≤ 12
  h : ∀ x, x ∈ k.hs → 50 ≤ x ∧ x ≤ 1000
theorem vC1 {k : Cs} (h : vCase k = true) : VC1 k := by
  simp only [vCase, inR, Bool.and_eq_true, decide_eq_true_eq, List.all_eq_true] at h
  obtain ⟨h1, h2, h3, h4⟩ := h
  exact ⟨h1, h2, by omega, h4⟩
theorem csWs_no (k : Cs) : ∀ w, w ∈ csWs k → (32 : UInt8) ∉ w := by
  intro w hw
  unfold csWs at hw
  rcases List.mem_cons.1 hw with rfl | hw
  · exact not_dig (by decide)
  · rcases List.mem_cons.1 hw with rfl | hw
    · exact not_dig (by decide)
    · obtain ⟨x, _, rfl⟩ := List.mem_map.1 hw
      exact not_dig (by decide)
def RdC (l : Bs) (k : Cs) : Prop := vCase k = true ∧ csT k = l
theorem rdc_words {l : Bs} {k : Cs} (h : RdC l k) : splitL 32 l = csWs k := by
  rw [← h.2]
  exact splitL_join (List.cons_ne_nil _ _) (csWs_no k)
theorem RdC.unique {l : Bs} {k k' : Cs} (h : RdC l k) (h' : RdC l k') : k = k' := by
  have v := vC1 h.1
  have v' := vC1 h'.1
  have e : csWs k = csWs k' := by rw [← rdc_words h, ← rdc_words h']
  unfold csWs at e
  simp only [List.cons.injEq] at e
  obtain ⟨e1, e2, e3⟩ := e
  cases k; cases k'
  simp only [Cs.mk.injEq]
  obtain ⟨a1, a2, a3, a4⟩ := v
  obtain ⟨c1, c2, c3, c4⟩ := v'
  simp only at a1 a2 a3 a4 c1 c2 c3 c4 e1 e2 e3
  exact ⟨dg_inj (by omega) (by omega) e1, dg_inj (by omega) (by omega) e2, map_dg_inj (fun x hx => by have := a4 x hx; omega) (fun x hx => by have := c4 x hx; omega) e3⟩
def CsR (l : Bs) (k : Cs) (n err : Int) : Prop := (n = 0 ∧ RdC l k) ∨ (n = err ∧ k = ⟨0, 0, []⟩ ∧ ∀ k', ¬ RdC l k')
theorem CsR.unique {l : Bs} {k k' : Cs} {n m err : Int} (h : CsR l k n err) (h' : CsR l k' m err) : k = k' ∧ n = m := by
  rcases h with ⟨h1, h2⟩ | ⟨h1, h2, h3⟩ <;> rcases h' with ⟨k1, k2⟩ | ⟨k1, k2, k3⟩
  · exact ⟨h2.unique k2, by rw [h1, k1]⟩
  · exact absurd h2 (k3 _)
  · exact absurd k2 (h3 _)
  · exact ⟨by rw [h2, k2], by rw [h1, k1]⟩
theorem rdc_len {l : Bs} {k : Cs} (h : RdC l k) : 3 ≤ (splitL 32 l).length ∧ (splitL 32 l).length ≤ 14 := by
  rw [rdc_words h]
  have := (vC1 h.1).n
  simp only [csWs, List.length_cons, List.length_map]
  omega
/-- The case that the program makes of words. -/
def csOf (w0 w1 : Bs) (r : List Bs) : Cs := ⟨shN w0, min (max (rdN w1) 0) 200001, r.map shN⟩
theorem csOf_back {l w0 w1 : Bs} {r : List Bs} (h : splitL 32 l = w0 :: w1 :: r) {k : Cs} (hr : RdC l k) : csOf w0 w1 r = k := by
  have e := rdc_words hr
  rw [h] at e
  unfold csWs at e
  simp only [List.cons.injEq] at e
  obtain ⟨rfl, rfl, rfl⟩ := e
  obtain ⟨a1, a2, a3, a4⟩ := vC1 hr.1
  unfold csOf
  rw [shN_dg (by omega) (by omega), (rd_dg (n := k.ld) (by omega) (by omega)).1, List.map_map]
  cases k
  simp only [Cs.mk.injEq, true_and] at a1 a2 a3 a4 ⊢
  refine ⟨by omega, ?_⟩
  exact map_back (fun x hx => by have := a4 x hx; exact shN_dg (by omega) (by omega))
theorem rdc_impl {l w0 w1 : Bs} {r : List Bs} (h : splitL 32 l = w0 :: w1 :: r) (err : Int) :
    CsR l (if (vCase (csOf w0 w1 r) && (csT (csOf w0 w1 r) == l)) = true then csOf w0 w1 r else ⟨0, 0, []⟩) (if (vCase (csOf w0 w1 r) && (csT (csOf w0 w1 r) == l)) = true then 0 else err) err := by
  split
  · rename_i hc
    rw [Bool.and_eq_true, beq_iff_eq] at hc
    exact .inl ⟨rfl, hc⟩
  · rename_i hc
    refine .inr ⟨rfl, rfl, fun b hb => hc ?_⟩
    rw [csOf_back h hb, Bool.and_eq_true, beq_iff_eq]
    exact hb
/-- The number of a word that the reference has read. -/
def nmW (w : Bs) : Int := ((numL w).getD 0 : Nat)
/-- The case that the reference makes of words. -/
def csNm : List Bs → Cs
  | [] => ⟨0, 0, []⟩
  | [w0] => ⟨nmW w0, 0, []⟩
  | w0 :: w1 :: r => ⟨nmW w0, nmW w1, r.map nmW⟩
theorem nmW_dg {w : Bs} (h : ∃ n, numL w = some n) : dg (nmW w) = w := by
  obtain ⟨n, hn⟩ := h
  unfold nmW
  rw [hn]
  exact numL_back hn
theorem nmW_of {n : Int} (h0 : 0 ≤ n) (h1 : n < 1000000000) : nmW (dg n) = n := by
  unfold nmW
  rw [numL_dg h0 h1]
  show ((n.toNat : Nat) : Int) = n
  omega
/-- A word that the reference lets pass. -/
def wOk (i : Nat) (w : Bs) : Prop := ∃ n, numL w = some n ∧ n ≤ 200000 ∧ (i ≠ 1 → n ≤ 2000)
theorem rdc_word {l w : Bs} {i : Nat} (hw : (splitL 32 l)[i]? = some w) {k : Cs} (hr : RdC l k) : wOk i w := by
  rw [rdc_words hr] at hw
  obtain ⟨a1, a2, a3, a4⟩ := vC1 hr.1
  unfold csWs at hw
  match i, hw with
  | 0, hw =>
    cases hw
    exact ⟨_, numL_dg (by omega) (by omega), by omega, fun _ => by omega⟩
  | 1, hw =>
    cases hw
    exact ⟨_, numL_dg (by omega) (by omega), by omega, fun h => absurd rfl h⟩
  | i + 2, hw =>
    simp only [List.getElem?_cons_succ] at hw
    obtain ⟨x, hx, rfl⟩ := List.getElem?_map .. ▸ hw |> Option.map_eq_some_iff.1
    have := a4 x (List.mem_of_getElem? hx)
    exact ⟨_, numL_dg (by omega) (by omega), by omega, fun _ => by omega⟩
theorem rdc_spec {l : Bs} (h : ∀ w, w ∈ splitL 32 l → ∃ n, numL w = some n) (err : Int) :
    CsR l (if vCase (csNm (splitL 32 l)) = true then csNm (splitL 32 l) else ⟨0, 0, []⟩) (if vCase (csNm (splitL 32 l)) = true then 0 else err) err := by
  split
  · rename_i hc
    refine .inl ⟨rfl, hc, ?_⟩
    have v := vC1 hc
    have e := joinL_split 32 l
    generalize splitL 32 l = ws at h hc v e ⊢
    match ws, h, hc, v, e with
    | [], _, _, v, _ => have := v.n; simp [csNm] at this
    | [_], _, _, v, _ => have := v.n; simp [csNm] at this
    | w0 :: w1 :: r, h, _, _, e =>
      have hr : (r.map nmW).map dg = r := by
        rw [List.map_map]
        exact map_back (fun w hw => nmW_dg (h w (by simp [hw])))
      rw [← e]
      unfold csT csWs csNm
      simp only
      rw [nmW_dg (h w0 (by simp)), nmW_dg (h w1 (by simp)), hr]
  · rename_i hc
    refine .inr ⟨rfl, rfl, fun k hr => hc ?_⟩
    have e := rdc_words hr
    obtain ⟨a1, a2, a3, a4⟩ := vC1 hr.1
    have : csNm (splitL 32 l) = k := by
      rw [e]
      show (⟨nmW (dg k.wd), nmW (dg k.ld), (k.hs.map dg).map nmW⟩ : Cs) = k
      rw [nmW_of (n := k.wd) (by omega) (by omega), nmW_of (n := k.ld) (by omega) (by omega), List.map_map]
      cases k
      simp only [Cs.mk.injEq, true_and] at a4 ⊢
      exact map_back (fun x hx => by have := a4 x hx; exact nmW_of (by omega) (by omega))
    rw [this]
    exact hr.1
end Go.Proofs.YtgibcacciedobaaDoor
