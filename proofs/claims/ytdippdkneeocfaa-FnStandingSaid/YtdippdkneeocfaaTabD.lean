/- The table of least costs in plain Lean; tables that a call owns; The last one of the best layouts in plain Lean; Rows in the making; tables that a call writes in place; The least cost in plain Lean: no layout costs less, one costs as much, its table is a proof. -/
import Derived.Test.YtdippdkneeocfaaInsR
import Derived.Test.YtdippdkneeocfaaProof
import Derived.StillTailTactics
import Derived.Still
import Derived.Deep.QuietTactic
import Derived.BigQuiet
import Derived.Deep.RegionHeld3
namespace Go.Proofs.Ytdippdkneeocfaa
open Go.RowKit Go.Proofs.YtdippdkneeocfaaW.PrintWords Go.Proofs.YtdippdkneeocfaaW.PrintMore
set_option linter.unusedVariables false
set_option linter.unusedSimpArgs false
set_option maxRecDepth 100000

/-- One more end of a shelf is looked at. -/
def stR (acc rest z : Int) : Int := if rest ≠ -1 ∧ (acc = -1 ∨ rest + z < acc) then rest + z else acc
def ceR (k : Cs) (pz : List Bk → Int) (L : List Bk) (s : Nat) (nx : List Int) (i : Nat) : Nat → Nat → Int → Int
  | 0, _, acc => acc
  | g + 1, m, acc => if fitL k s (subL L i m) = true then ceR k pz L s nx i g (m + 1) (stR acc (nx.getD m 0) (pz (subL L i m))) else acc
def ceF (k : Cs) (pz : List Bk → Int) (L : List Bk) (s : Nat) (nx : List Int) (i : Nat) : Int := ceR k pz L s nx i (L.length + 1 - i) i (-1)
def roR (k : Cs) (pz : List Bk → Int) (L : List Bk) (s : Nat) (nx : List Int) : List Int := (List.range (L.length + 1)).map (ceF k pz L s nx)
def lastR (n : Nat) : List Int := List.replicate n (-1) ++ [0]
def taN (k : Cs) (pz : List Bk → Int) (L : List Bk) : Nat → List (List Int)
  | 0 => [lastR L.length]
  | j + 1 => roR k pz L (k.hs.length - (j + 1)) ((taN k pz L j).headD []) :: taN k pz L j
theorem lastR_len (n : Nat) : (lastR n).length = n + 1 := by simp [lastR]
theorem lastR_set (n : Nat) : (List.replicate (n + 1) (-1 : Int)).set n 0 = lastR n := by
  rw [List.replicate_succ', lastR, List.set_append_right _ _ (by simp)]
  simp
theorem roR_len (k : Cs) (pz : List Bk → Int) (L : List Bk) (s : Nat) (nx : List Int) : (roR k pz L s nx).length = L.length + 1 := by simp [roR]
theorem roR_at {k : Cs} {pz : List Bk → Int} {L : List Bk} {s : Nat} {nx : List Int} {i : Nat} (h : i < L.length + 1) : (roR k pz L s nx)[i]? = some (ceF k pz L s nx i) := by
  rw [roR, List.getElem?_map, List.getElem?_range h]; rfl
theorem taN_len (k : Cs) (pz : List Bk → Int) (L : List Bk) (j : Nat) : (taN k pz L j).length = j + 1 := by
  induction j with
  | zero => rfl
  | succ j ih => rw [taN, List.length_cons, ih]
theorem taN_row (k : Cs) (pz : List Bk → Int) (L : List Bk) (j : Nat) (r : List Int) (h : r ∈ taN k pz L j) : r.length = L.length + 1 := by
  induction j with
  | zero => rw [taN, List.mem_singleton] at h; rw [h, lastR_len]
  | succ j ih =>
    rw [taN] at h
    rcases List.mem_cons.1 h with rfl | h
    · exact roR_len _ _ _ _ _
    · exact ih h
theorem taN_head (k : Cs) (pz : List Bk → Int) (L : List Bk) (j : Nat) : (taN k pz L j)[0]? = some ((taN k pz L j).headD []) := by
  cases j <;> rfl
theorem stR_bd {acc rest z B : Int} (ha : -1 ≤ acc ∧ acc ≤ B + 4000000) (hr : -1 ≤ rest ∧ rest ≤ B) (hz : 0 ≤ z ∧ z ≤ 4000000) : -1 ≤ stR acc rest z ∧ stR acc rest z ≤ B + 4000000 := by
  unfold stR
  split <;> omega
structure PzOk (k : Cs) (pz : List Bk → Int) : Prop where
  bd : ∀ s M, FitOk M → fitL k s M = true → 0 ≤ pz M ∧ pz M ≤ 4000000
def RowBd (B : Int) (r : List Int) : Prop := ∀ x, x ∈ r → -1 ≤ x ∧ x ≤ B
theorem RowBd.getD {B : Int} {r : List Int} (h : RowBd B r) (hB : 0 ≤ B) (m : Nat) : -1 ≤ r.getD m 0 ∧ r.getD m 0 ≤ B := by
  rw [List.getD_eq_getElem?_getD]
  cases e : r[m]? with
  | none => show -1 ≤ (0 : Int) ∧ (0 : Int) ≤ B; omega
  | some x => exact h x (List.mem_of_getElem? e)
theorem ceR_bd {k : Cs} {pz : List Bk → Int} {L : List Bk} (hp : PzOk k pz) (hL : FitOk L) {s : Nat} {nx : List Int} {B : Int} (hB : 0 ≤ B) (hn : RowBd B nx) (i g m : Nat) (acc : Int) (ha : -1 ≤ acc ∧ acc ≤ B + 4000000) : -1 ≤ ceR k pz L s nx i g m acc ∧ ceR k pz L s nx i g m acc ≤ B + 4000000 := by
  induction g generalizing m acc with
  | zero => exact ha
  | succ g ih =>
    rw [ceR]
    split
    · rename_i h
      exact ih _ _ (stR_bd ha (hn.getD hB m) (hp.bd s _ (hL.sub (subL_sub L _ _)) h))
    · exact ha
theorem taN_bd {k : Cs} {pz : List Bk → Int} {L : List Bk} (hp : PzOk k pz) (hL : FitOk L) (j : Nat) : ∀ r, r ∈ taN k pz L j → RowBd (4000000 * j) r := by
  induction j with
  | zero =>
    intro r h x hx
    rw [taN, List.mem_singleton] at h
    rw [h, lastR] at hx
    rcases List.mem_append.1 hx with hx | hx
    · rw [List.eq_of_mem_replicate hx]; omega
    · rw [List.mem_singleton.1 hx]; omega
  | succ j ih =>
    intro r h
    rw [taN] at h
    rcases List.mem_cons.1 h with rfl | h
    · intro x hx
      obtain ⟨i, _, rfl⟩ := List.mem_map.1 hx
      have h0 := List.mem_of_getElem? (taN_head k pz L j)
      have := ceR_bd hp hL (s := k.hs.length - (j + 1)) (by omega) (ih _ h0) i (L.length + 1 - i) i (-1) (by omega)
      unfold ceF
      omega
    · intro x hx
      have := ih r h x hx
      omega
/-- A table that a call owns: rows in blocks of their own. -/
structure OwnT (w0 w : World) (v : Value) (X : List SlH) (T : List (List Int)) : Prop where
  out : Own kSH 56 w0 w v X
  len : X.length = T.length
  row : ∀ (j : Nat) (h : SlH) (r : List Int), X[j]? = some h → T[j]? = some r → Own (Kd.int .i64) 2 w0 w h.val r
  ap : ∀ (i j : Nat) (h h' : SlH), i ≠ j → X[i]? = some h → X[j]? = some h' → Apart h.val h'.val
theorem OwnT.below {w0 w w' : World} {v : Value} {X : List SlH} {T : List (List Int)} (h : OwnT w0 w v X T) (hb : Below w.heap.size w w') : OwnT w0 w' v X T :=
  ⟨h.out.below hb, h.len, fun j x r h1 h2 => (h.row j x r h1 h2).below hb, h.ap⟩
/-- What the table's rows keep while its head row grows. -/
theorem OwnT.cons {w0 w w' : World} {v v' : Value} {X : List SlH} {T : List (List Int)} {x : SlH} {r : List Int} (h : OwnT w0 w v X T) (hx : Own (Kd.int .i64) 2 w0 w x.val r) (hap : ∀ (j : Nat) (y : SlH), X[j]? = some y → Apart y.val x.val)
    (hg : w.grownBy w' v.ownBlock) (hv : kSH.R 56 w' w0.heap.size (fun _ => True) v' (x :: X)) : OwnT w0 w' v' (x :: X) (r :: T) := by
  have hstep : ∀ {y : SlH} {q : List Int}, Own (Kd.int .i64) 2 w0 w y.val q → Own (Kd.int .i64) 2 w0 w' y.val q := fun {y q} ho => by
    unfold Own at ho ⊢
    exact Kd.R_over ho h.out (fun q hq => by
      have : q = 2 := by simpa [Kd.int, Kd.scalar] using hq
      rw [this]; decide) hg
  refine ⟨Kd.R_tight kSH_E hv, by rw [List.length_cons, List.length_cons, h.len], fun j y q h1 h2 => ?_, fun i j y z hne h1 h2 => ?_⟩
  · cases j with
    | zero => cases h1; cases h2; exact hstep hx
    | succ j => exact hstep (h.row j y q h1 h2)
  · cases i with
    | zero =>
      cases j with
      | zero => exact absurd rfl hne
      | succ j => cases h1; exact (hap j z h2).symm
    | succ i =>
      cases j with
      | zero => cases h2; exact hap i y h1
      | succ j => exact h.ap i j y z (by omega) h1 h2
/-- It reads as a table. -/
theorem OwnT.reads {w0 w : World} {A : Option Addr} {n c : Nat} {X : List SlH} {T : List (List Int)} (h : OwnT w0 w (.slice A n c) X T) : n = T.length ∧ n ≤ c ∧ kT.C w A T.length T := by
  obtain ⟨hn, hc, hC⟩ := Kd.R_reads' h.out
  have hl := h.len
  refine ⟨by omega, hc, rfl, by have := Kd.C_max hC; omega, fun h0 => ?_⟩
  obtain ⟨a, rfl, hcell⟩ := hC.2.2 (by omega)
  refine ⟨a, rfl, fun j r hj => ?_⟩
  have hjl : j < T.length := (List.getElem?_eq_some_iff.1 hj).1
  obtain ⟨x, hx⟩ : ∃ x, X[j]? = some x := ⟨_, List.getElem?_eq_getElem (by omega)⟩
  obtain ⟨cs, hl, hK, hat⟩ := hcell j x hx
  have ho := h.row j x r hx hj
  obtain ⟨hn2, hc2, hC2⟩ := Kd.R_reads' ho
  exact ⟨[x.val], rfl, ⟨x.A, x.c, by unfold SlH.val; rw [hn2], by omega, hC2⟩, fun i u hu => by
    have hk : cs = [x.val] := hK
    rw [hk] at hat
    exact hat i u hu⟩
/-- The last place of g places from i on at which p holds, i if none. -/
def lastHit (p : Nat → Bool) (i : Nat) : Nat → Nat
  | 0 => i
  | g + 1 => if p (i + g) = true then i + g else lastHit p i g
theorem lastHit_yes {p : Nat → Bool} {i g : Nat} (h : p (i + g) = true) : lastHit p i (g + 1) = i + g := by rw [lastHit, if_pos h]
theorem lastHit_no {p : Nat → Bool} {i g : Nat} (h : p (i + g) = false) : lastHit p i (g + 1) = lastHit p i g := by rw [lastHit, if_neg (by rw [h]; decide)]
theorem lastHit_stop {p : Nat → Bool} {i g : Nat} (d : Nat) (h : ∀ m, i + g ≤ m → p m = false) : lastHit p i (g + d) = lastHit p i g := by
  induction d with
  | zero => rfl
  | succ d ih => rw [show g + (d + 1) = g + d + 1 by omega, lastHit_no (h _ (by omega)), ih]
theorem lastHit_bd (p : Nat → Bool) (i g : Nat) : i ≤ lastHit p i g ∧ lastHit p i g ≤ i + (g - 1) := by
  induction g with
  | zero => exact ⟨Nat.le_refl _, by show i ≤ _; omega⟩
  | succ g ih =>
    rw [lastHit]
    split <;> omega
theorem lastHit_hit {p : Nat → Bool} {i g : Nat} (h : ∃ m, i ≤ m ∧ m < i + g ∧ p m = true) : p (lastHit p i g) = true := by
  induction g with
  | zero => obtain ⟨m, h1, h2, _⟩ := h; omega
  | succ g ih =>
    cases e : p (i + g)
    · rw [lastHit_no e]
      refine ih ?_
      obtain ⟨m, h1, h2, h3⟩ := h
      refine ⟨m, h1, ?_, h3⟩
      by_cases hm : m = i + g
      · rw [hm, e] at h3; cases h3
      · omega
    · rw [lastHit_yes e]; exact e
def hitB (k : Cs) (pz : List Bk → Int) (L : List Bk) (T : List (List Int)) (s i m : Nat) : Bool := fitL k s (subL L i m) && (tb T (s + 1) m != -1 && (tb T (s + 1) m + pz (subL L i m) == tb T s i))
def atN (k : Cs) (pz : List Bk → Int) (L : List Bk) (T : List (List Int)) (s i : Nat) : Nat := lastHit (hitB k pz L T s i) i (L.length + 1 - i)
theorem atN_bd {k : Cs} {pz : List Bk → Int} {L : List Bk} {T : List (List Int)} {s i : Nat} (h : i ≤ L.length) : i ≤ atN k pz L T s i ∧ atN k pz L T s i ≤ L.length := by
  have := lastHit_bd (hitB k pz L T s i) i (L.length + 1 - i)
  unfold atN
  omega
def bsAt (k : Cs) (pz : List Bk → Int) (L : List Bk) (T : List (List Int)) : Nat → Nat
  | 0 => 0
  | s + 1 => atN k pz L T s (bsAt k pz L T s)
theorem bsAt_le (k : Cs) (pz : List Bk → Int) (L : List Bk) (T : List (List Int)) (s : Nat) : bsAt k pz L T s ≤ L.length := by
  induction s with
  | zero => exact Nat.zero_le _
  | succ s ih => exact (atN_bd ih).2
def bsEnds (k : Cs) (pz : List Bk → Int) (L : List Bk) (T : List (List Int)) (n : Nat) : List Int := (List.range n).map (fun s => (bsAt k pz L T (s + 1) : Int))
theorem bsEnds_succ (k : Cs) (pz : List Bk → Int) (L : List Bk) (T : List (List Int)) (n : Nat) : bsEnds k pz L T (n + 1) = bsEnds k pz L T n ++ [(bsAt k pz L T (n + 1) : Int)] := by unfold bsEnds; rw [List.range_succ, List.map_append]; rfl
theorem bsEnds_len (k : Cs) (pz : List Bk → Int) (L : List Bk) (T : List (List Int)) (n : Nat) : (bsEnds k pz L T n).length = n := by unfold bsEnds; rw [List.length_map, List.length_range]
def taL (k : Cs) (pz : List Bk → Int) (L : List Bk) : List (List Int) := taN k pz L k.hs.length
def beE (k : Cs) (pz : List Bk → Int) (L : List Bk) : Int := if eCL k L = 0 then (if tb (taL k pz L) 0 0 = -1 then 6 else 0) else eCL k L
def beV (k : Cs) (pz : List Bk → Int) (L : List Bk) : List Int := if beE k pz L = 0 then bsEnds k pz L (taL k pz L) k.hs.length else []
def beC (k : Cs) (pz : List Bk → Int) (L : List Bk) : Int := if beE k pz L = 0 then tb (taL k pz L) 0 0 else 0
theorem be_bad {k : Cs} {pz : List Bk → Int} {L : List Bk} (h : eCL k L = 1) : beV k pz L = [] ∧ beC k pz L = 0 ∧ beE k pz L = 1 := by
  have h1 : beE k pz L = 1 := by unfold beE; rw [h]; rfl
  exact ⟨by unfold beV; rw [h1]; rfl, by unfold beC; rw [h1]; rfl, h1⟩
theorem be_none {k : Cs} {pz : List Bk → Int} {L : List Bk} (h : eCL k L = 0) (h2 : tb (taL k pz L) 0 0 = -1) : beV k pz L = [] ∧ beC k pz L = 0 ∧ beE k pz L = 6 := by
  have h1 : beE k pz L = 6 := by unfold beE; rw [if_pos h, if_pos h2]
  exact ⟨by unfold beV; rw [h1]; rfl, by unfold beC; rw [h1]; rfl, h1⟩
theorem be_ok {k : Cs} {pz : List Bk → Int} {L : List Bk} (h : eCL k L = 0) (h2 : tb (taL k pz L) 0 0 ≠ -1) : beV k pz L = bsEnds k pz L (taL k pz L) k.hs.length ∧ beC k pz L = tb (taL k pz L) 0 0 ∧ beE k pz L = 0 := by
  have h1 : beE k pz L = 0 := by unfold beE; rw [if_pos h, if_neg h2]
  exact ⟨by unfold beV; rw [if_pos h1], by unfold beC; rw [if_pos h1], h1⟩
theorem beV_len (k : Cs) (pz : List Bk → Int) (L : List Bk) : (beV k pz L).length ≤ k.hs.length := by
  unfold beV
  split
  · rw [bsEnds_len]; omega
  · exact Nat.zero_le _
/-- Fewer books of a shelf fit as well. -/
theorem tot_le {M : List Bk} (h : FitOk M) (n : Nat) (hn : n ≤ M.length) : (totL (M.take n)).x ≤ (totL M).x ∧ (totL (M.take n)).y ≤ (totL M).y ∧ (totL (M.take n)).z ≤ (totL M).z := by
  have hs : ∀ d, n + d ≤ M.length → (totL (M.take n)).x ≤ (totL (M.take (n + d))).x ∧ (totL (M.take n)).y ≤ (totL (M.take (n + d))).y ∧ (totL (M.take n)).z ≤ (totL (M.take (n + d))).z := by
    intro d
    induction d with
    | zero => exact fun _ => ⟨Int.le_refl _, Int.le_refl _, Int.le_refl _⟩
    | succ d ih =>
      intro hd
      have ih := ih (by omega)
      have hg : M[n + d]? = some M[n + d] := List.getElem?_eq_getElem (by omega)
      have hb := h.bk _ (List.getElem_mem (show n + d < M.length by omega))
      rw [show n + (d + 1) = n + d + 1 by omega, h.step hg]
      generalize totL (M.take (n + d)) = t at ih
      simp only [mx]
      split <;> omega
  have := hs (M.length - n) (by omega)
  rwa [show n + (M.length - n) = M.length by omega, List.take_length] at this
theorem subL_take (L : List Bk) (i j m : Nat) (h : j ≤ m) : subL L i j = (subL L i m).take (j - i) := by
  unfold subL
  simp only [Int.toNat_natCast]
  rw [List.drop_take, List.drop_take, List.take_take, Nat.min_eq_left (by omega)]
theorem fit_mono {k : Cs} {s : Nat} {L : List Bk} {i j m : Nat} (hL : FitOk L) (h : j ≤ m) (hf : fitL k s (subL L i m) = true) : fitL k s (subL L i j) = true := by
  rw [subL_take L i j m h]
  have hM := hL.sub (subL_sub L i m)
  generalize subL L i m = M at hf hM
  by_cases hn : j - i ≤ M.length
  · have := tot_le hM (j - i) hn
    unfold fitL fitT at hf ⊢
    simp only [Bool.and_eq_true, decide_eq_true_eq] at hf ⊢
    omega
  · rw [List.take_of_length_le (by omega)]; exact hf
/-- The first i numbers of a row are made, the next one is acc, the rest are -1. -/
def RoS (n : Nat) (f : Nat → Int) (i : Nat) (acc : Int) (r : List Int) : Prop := r.length = n + 1 ∧ ∀ j x, r[j]? = some x → x = if j < i then f j else if j = i then acc else -1
theorem RoS.start (n : Nat) (f : Nat → Int) : RoS n f 0 (-1) (List.replicate (n + 1) (-1)) := by
  refine ⟨List.length_replicate, fun j x h => ?_⟩
  rw [List.eq_of_mem_replicate (List.mem_of_getElem? h), if_neg (by omega)]
  split <;> rfl
theorem RoS.next {n : Nat} {f : Nat → Int} {i : Nat} {acc : Int} {r : List Int} (h : RoS n f i acc r) (he : acc = f i) : RoS n f (i + 1) (-1) r := by
  refine ⟨h.1, fun j x hj => ?_⟩
  have := h.2 j x hj
  by_cases h1 : j < i
  · rw [if_pos h1] at this
    rw [if_pos (by omega)]
    exact this
  · rw [if_neg h1] at this
    by_cases h2 : j = i
    · rw [if_pos h2] at this
      rw [if_pos (by omega), this, he, h2]
    · rw [if_neg h2] at this
      rw [if_neg (by omega), this]
      split <;> rfl
theorem RoS.put {n : Nat} {f : Nat → Int} {i : Nat} {acc : Int} {r : List Int} (h : RoS n f i acc r) (y : Int) : RoS n f i y (r.set i y) := by
  refine ⟨by rw [List.length_set]; exact h.1, fun j x hj => ?_⟩
  rw [List.getElem?_set] at hj
  by_cases h1 : i = j
  · rw [if_pos h1] at hj
    split at hj
    · cases hj
      rw [if_neg (by omega), if_pos h1.symm]
    · cases hj
  · rw [if_neg h1] at hj
    have := h.2 j x hj
    rw [this]
    by_cases h2 : j < i
    · rw [if_pos h2, if_pos h2]
    · rw [if_neg h2, if_neg h2, if_neg (fun e => h1 e.symm), if_neg (fun e => h1 e.symm)]
theorem RoS.at {n : Nat} {f : Nat → Int} {i : Nat} {acc : Int} {r : List Int} (h : RoS n f i acc r) (hi : i ≤ n) : r[i]? = some acc := by
  have hl : i < r.length := by rw [h.1]; omega
  have h1 := h.2 i r[i] (List.getElem?_eq_getElem hl)
  rw [if_neg (by omega), if_pos rfl] at h1
  rw [List.getElem?_eq_getElem hl, h1]
theorem RoS.rd {n : Nat} {f : Nat → Int} {i : Nat} {acc : Int} {r : List Int} (h : RoS n f i acc r) (hi : i ≤ n) (d : Int) : rdOf d r (i : Int) = acc := by
  have := h.at hi
  unfold rdOf
  rw [Int.toNat_natCast]
  first
    | rw [List.getD_eq_getElem?_getD, this]; rfl
    | rw [this]; rfl
theorem RoS.done {n : Nat} {f : Nat → Int} {acc : Int} {r : List Int} (h : RoS n f (n + 1) acc r) : r = (List.range (n + 1)).map f := by
  refine List.ext_getElem? (fun j => ?_)
  by_cases hj : j < n + 1
  · have hl : j < r.length := by rw [h.1]; exact hj
    have h1 := h.2 j r[j] (List.getElem?_eq_getElem hl)
    rw [if_pos hj] at h1
    rw [List.getElem?_eq_getElem hl, h1, List.getElem?_map, List.getElem?_range hj]
    rfl
  · rw [List.getElem?_eq_none (by rw [h.1]; omega), List.getElem?_eq_none (by simp; omega)]
theorem ceR_hit {k : Cs} {pz : List Bk → Int} {L : List Bk} {s : Nat} {nx : List Int} {i g m : Nat} {acc : Int} (hg : 0 < g) (h : fitL k s (subL L (i : Int) (m : Int)) = true) : ceR k pz L s nx i g m acc = ceR k pz L s nx i (g - 1) (m + 1) (stR acc (nx.getD m 0) (pz (subL L (i : Int) (m : Int)))) := by
  match g, hg with
  | g + 1, _ => rw [ceR, if_pos h]; rfl
theorem ceR_stop {k : Cs} {pz : List Bk → Int} {L : List Bk} {s : Nat} {nx : List Int} {i g m : Nat} {acc : Int} (h : fitL k s (subL L (i : Int) (m : Int)) = false) : ceR k pz L s nx i g m acc = acc := by
  cases g with
  | zero => rfl
  | succ g => rw [ceR, if_neg (by rw [h]; decide)]
theorem stR_yes {acc rest z : Int} (h : rest ≠ -1) (h2 : acc = -1 ∨ rest + z < acc) : stR acc rest z = rest + z := by unfold stR; rw [if_pos ⟨h, h2⟩]
theorem stR_no {acc rest z : Int} (h : rest = -1 ∨ (acc ≠ -1 ∧ acc ≤ rest + z)) : stR acc rest z = acc := by
  unfold stR
  rw [if_neg]
  omega
theorem wrap_sum {a z : Int} (h0 : -1 ≤ a) (h1 : a ≤ 1000000000) (h2 : -1 ≤ z) (h3 : z ≤ 1000000000) : IntKind.i64.wrap (a + z) = a + z := by rw [IntKind.wrap_i64]; omega
/-- A row is put into the table. -/
theorem OwnT.set {w0 w : World} {g n cap : Nat} {X : List SlH} {T : List (List Int)} (h : OwnT w0 w (.slice (some ⟨g, 0, none⟩) n cap) X T) (i : Nat) {x : SlH} {r : List Int} (hx : Own (Kd.int .i64) 2 w0 w x.val r) (hap : ∀ (j : Nat) (y : SlH), j ≠ i → X[j]? = some y → Apart y.val x.val) : OwnT w0 (w.setCell ⟨g, i, none⟩ x.val) (.slice (some ⟨g, 0, none⟩) n cap) (X.set i x) (T.set i r) ∧ w.grownBy (w.setCell ⟨g, i, none⟩ x.val) (some g) := by
  obtain ⟨h1, h2⟩ := Kd.R_putg h.out (i : Int) x
  rw [Int.toNat_natCast] at h1 h2
  refine ⟨⟨h1, by rw [List.length_set, List.length_set]; exact h.len, fun j y q hy hq => ?_, fun j l y z hne hy hz => ?_⟩, h2⟩
  · have hstep : ∀ {y : SlH} {q : List Int}, Own (Kd.int .i64) 2 w0 w y.val q → Own (Kd.int .i64) 2 w0 (w.setCell ⟨g, i, none⟩ x.val) y.val q := fun {y q} ho => by
      unfold Own at ho ⊢
      exact Kd.R_over ho h.out (fun q hq => by
        have : q = 2 := by simpa [Kd.int, Kd.scalar] using hq
        rw [this]; decide) h2
    rw [List.getElem?_set] at hy hq
    by_cases e : i = j
    · rw [if_pos e] at hy hq
      split at hy
      · rw [if_pos (by have := h.len; omega)] at hq
        cases hy; cases hq
        exact hstep hx
      · cases hy
    · rw [if_neg e] at hy hq
      exact hstep (h.row j y q hy hq)
  · rw [List.getElem?_set] at hy hz
    by_cases e : i = j
    · rw [if_pos e] at hy
      rw [if_neg (by omega)] at hz
      split at hy
      · cases hy
        exact (hap l z (by omega) hz).symm
      · cases hy
    · rw [if_neg e] at hy
      by_cases e2 : i = l
      · rw [if_pos e2] at hz
        split at hz
        · cases hz
          exact hap j y (fun e' => e e'.symm) hy
        · cases hz
      · rw [if_neg e2] at hz
        exact h.ap j l y z hne hy hz
/-- A row of the table has been written anew. -/
theorem OwnT.upd {w0 w w' : World} {v : Value} {X : List SlH} {T : List (List Int)} (h : OwnT w0 w v X T) {s : Nat} {x : SlH} {r r' : List Int} (hx : X[s]? = some x) (hr : T[s]? = some r) (ho : Own (Kd.int .i64) 2 w0 w' x.val r') (hg : w.grownBy w' x.val.ownBlock) : OwnT w0 w' v X (T.set s r') := by
  have hrow := h.row s x r hx hr
  refine ⟨?_, by rw [List.length_set]; exact h.len, fun j z q hz hq => ?_, h.ap⟩
  · have := h.out
    unfold Own at this hrow ⊢
    exact Kd.R_over this hrow (fun q hq => by
      have : q = 56 := by simpa [kSH, Kd.scalar] using hq
      rw [this]; decide) hg
  · rw [List.getElem?_set] at hq
    by_cases e : s = j
    · subst e
      rw [hx] at hz
      cases hz
      rw [if_pos rfl] at hq
      split at hq
      · cases hq; exact ho
      · cases hq
    · rw [if_neg e] at hq
      exact (h.row j z q hz hq).grown hg (h.ap j s z _ (fun e' => e e'.symm) hz hx)
/-- A number is put into a row of the table. -/
theorem OwnT.put {w0 w : World} {v : Value} {X : List SlH} {T : List (List Int)} (h : OwnT w0 w v X T) {s b n c : Nat} {r : List Int} (hx : X[s]? = some ⟨some ⟨b, 0, none⟩, n, c⟩) (hr : T[s]? = some r) (i : Nat) (y : Int) : OwnT w0 (w.setCell ⟨b, i, none⟩ (.int .i64 y)) v X (T.set s (r.set i y)) := by
  have ho := h.row s _ r hx hr
  have ho' : (Kd.int .i64).R 2 w w0.heap.size (fun k => some k = (Value.slice (some ⟨b, 0, none⟩) n c).ownBlock) (.slice (some ⟨b, 0, none⟩) n c) r := ho
  obtain ⟨h1, h2⟩ := Kd.R_putg ho' (i : Int) y
  rw [Int.toNat_natCast] at h1 h2
  exact h.upd hx hr h1 h2
/-- Something older has been written. -/
theorem OwnT.old {w0 w w' : World} {v : Value} {X : List SlH} {T : List (List Int)} (h : OwnT w0 w v X T) {u : Option Nat} (hg : w.grownBy w' u) (hu : ∀ b, u = some b → b < w0.heap.size) : OwnT w0 w' v X T := by
  refine ⟨?_, h.len, fun j z q hz hq => ?_, h.ap⟩
  · have := h.out
    unfold Own at this ⊢
    exact Kd.R_grown this hg (fun k hk he => by have := hu k he.symm; have := Kd.R_base h.out k hk.symm; omega)
  · have := h.row j z q hz hq
    unfold Own at this ⊢
    exact Kd.R_grown this hg (fun k hk he => by have h1 := hu k he.symm; have h2 := Kd.R_base (h.row j z q hz hq) k hk.symm; omega)
theorem OwnT.open {w0 w : World} {v : Value} {X : List SlH} {T : List (List Int)} (h : OwnT w0 w v X T) : ∃ A c, v = .slice A T.length c ∧ T.length ≤ c := by
  obtain ⟨A, c, e, hc⟩ := h.out.open
  have := h.len
  exact ⟨A, c, by rw [e, this], by omega⟩
/-- A table and a code. -/
def TupT (w : World) (T : List (List Int)) (n : Int) (v : Value) (w' : World) : Prop := ∃ v1 X, v = .tuple #[v1, .int .i64 n] ∧ OwnT w w' v1 X T
def TupI3 (w : World) (L : List Int) (a b : Int) (v : Value) (w' : World) : Prop := ∃ v1, v = .tuple #[v1, .int .i64 a, .int .i64 b] ∧ NewI w L v1 w'
/-- A row's head in the table. -/
theorem OwnT.at {w0 w : World} {A : Option Addr} {n c : Nat} {X : List SlH} {T : List (List Int)} (h : OwnT w0 w (.slice A n c) X T) (i : Nat) (hi : i < T.length) :
    ∃ ad x r, A = some ad ∧ X[i]? = some x ∧ Aside0 (T[i]? = some r) ∧ w.cell? (ad.add i) = some x.val ∧ x.n = r.length ∧ r.length ≤ x.c ∧ Aside0 (Own (Kd.int .i64) 2 w0 w x.val r) := by
  obtain ⟨hn, hc, hC⟩ := Kd.R_reads' h.out
  have hl := h.len
  obtain ⟨ad, rfl, hcell⟩ := hC.2.2 (by omega)
  obtain ⟨x, hx⟩ : ∃ x, X[i]? = some x := ⟨_, List.getElem?_eq_getElem (by omega)⟩
  obtain ⟨r, hr⟩ : ∃ r, T[i]? = some r := ⟨_, List.getElem?_eq_getElem hi⟩
  obtain ⟨cs, hl, hK, hat⟩ := hcell i x hx
  have ho := h.row i x r hx hr
  obtain ⟨hn2, hc2, _⟩ := Kd.R_reads' ho
  have hk : cs = [x.val] := hK
  rw [hk] at hat
  have h0 : w.cell? (ad.add (i * 1 + 0)) = some x.val := hat 0 _ rfl
  rw [show i * 1 + 0 = i by omega] at h0
  exact ⟨ad, x, r, rfl, hx, ⟨hr⟩, h0, hn2, by omega, ⟨ho⟩⟩
section
variable {k : Cs} {pz : List Bk → Int} {L : List Bk}
theorem ceR_acc (hp : PzOk k pz) (hL : FitOk L) {s : Nat} {nx : List Int} (hn : ∀ m, -1 ≤ nx.getD m 0) (i : Nat) : ∀ (g m : Nat) (acc : Int), -1 ≤ acc → -1 ≤ ceR k pz L s nx i g m acc ∧ (acc ≠ -1 → ceR k pz L s nx i g m acc ≠ -1 ∧ ceR k pz L s nx i g m acc ≤ acc)
  | 0, m, acc, h => ⟨h, fun h2 => ⟨h2, Int.le_refl _⟩⟩
  | g + 1, m, acc, h => by
    rw [ceR]
    split
    · rename_i hf
      have hz := hp.bd s _ (hL.sub (subL_sub L _ _)) hf
      have hr := hn m
      have hs : -1 ≤ stR acc (nx.getD m 0) (pz (subL L (i : Int) (m : Int))) ∧ (acc ≠ -1 → stR acc (nx.getD m 0) (pz (subL L (i : Int) (m : Int))) ≠ -1 ∧ stR acc (nx.getD m 0) (pz (subL L (i : Int) (m : Int))) ≤ acc) := by
        unfold stR
        split <;> omega
      have ih := ceR_acc (s := s) hp hL hn i g (m + 1) _ hs.1
      refine ⟨ih.1, fun h2 => ?_⟩
      have h3 := hs.2 h2
      have h4 := ih.2 h3.1
      exact ⟨h4.1, Int.le_trans h4.2 h3.2⟩
    · exact ⟨h, fun h2 => ⟨h2, Int.le_refl _⟩⟩
theorem ceR_low (hp : PzOk k pz) (hL : FitOk L) {s : Nat} {nx : List Int} (hn : ∀ m, -1 ≤ nx.getD m 0) (i : Nat) : ∀ (g m : Nat) (acc : Int), -1 ≤ acc → ∀ m', m ≤ m' → m' < m + g → (∀ j, m ≤ j → j ≤ m' → fitL k s (subL L (i : Int) (j : Int)) = true) → nx.getD m' 0 ≠ -1 → ceR k pz L s nx i g m acc ≠ -1 ∧ ceR k pz L s nx i g m acc ≤ nx.getD m' 0 + pz (subL L (i : Int) (m' : Int))
  | 0, m, acc, h, m', h1, h2, _, _ => by omega
  | g + 1, m, acc, h, m', h1, h2, h3, h4 => by
    have hf := h3 m (Nat.le_refl _) h1
    rw [ceR, if_pos hf]
    have hz := hp.bd s _ (hL.sub (subL_sub L _ _)) hf
    have hr := hn m
    have hs : -1 ≤ stR acc (nx.getD m 0) (pz (subL L (i : Int) (m : Int))) := by
      unfold stR
      split <;> omega
    by_cases e : m' = m
    · subst e
      have hs2 : stR acc (nx.getD m' 0) (pz (subL L (i : Int) (m' : Int))) ≠ -1 ∧ stR acc (nx.getD m' 0) (pz (subL L (i : Int) (m' : Int))) ≤ nx.getD m' 0 + pz (subL L (i : Int) (m' : Int)) := by
        unfold stR
        split <;> omega
      have h5 := (ceR_acc (s := s) hp hL hn i g (m' + 1) _ hs).2 hs2.1
      exact ⟨h5.1, Int.le_trans h5.2 hs2.2⟩
    · exact ceR_low hp hL hn i g (m + 1) _ hs m' (by omega) (by omega) (fun j h6 h7 => h3 j (by omega) h7) h4
theorem ceR_ex {s : Nat} {nx : List Int} (i : Nat) : ∀ (g m : Nat) (acc : Int), ceR k pz L s nx i g m acc = acc ∨ ∃ m', m ≤ m' ∧ m' < m + g ∧ fitL k s (subL L (i : Int) (m' : Int)) = true ∧ nx.getD m' 0 ≠ -1 ∧ nx.getD m' 0 + pz (subL L (i : Int) (m' : Int)) = ceR k pz L s nx i g m acc
  | 0, m, acc => .inl rfl
  | g + 1, m, acc => by
    rw [ceR]
    split
    · rename_i hf
      rcases ceR_ex (s := s) (nx := nx) i g (m + 1) (stR acc (nx.getD m 0) (pz (subL L (i : Int) (m : Int)))) with h | ⟨m', h1, h2, h3⟩
      · by_cases hs : stR acc (nx.getD m 0) (pz (subL L (i : Int) (m : Int))) = acc
        · rw [hs] at h
          rw [hs]
          exact .inl h
        · have h4 : nx.getD m 0 ≠ -1 ∧ stR acc (nx.getD m 0) (pz (subL L (i : Int) (m : Int))) = nx.getD m 0 + pz (subL L (i : Int) (m : Int)) := by
            unfold stR at hs ⊢
            split at hs
            · rename_i h5
              rw [if_pos h5]
              exact ⟨h5.1, rfl⟩
            · exact absurd rfl hs
          exact .inr ⟨m, Nat.le_refl _, by omega, hf, h4.1, by rw [h, h4.2]⟩
      · exact .inr ⟨m', by omega, by omega, h3⟩
    · exact .inl rfl
theorem taN_getD (j : Nat) : ∀ t, t ≤ j → (taN k pz L j).getD t [] = (taN k pz L (j - t)).headD [] := by
  induction j with
  | zero =>
    intro t ht
    have : t = 0 := by omega
    subst this
    rfl
  | succ j ih =>
    intro t ht
    cases t with
    | zero => rfl
    | succ t =>
      have := ih t (by omega)
      rw [taN, show j + 1 - (t + 1) = j - t by omega, ← this]
      simp [List.getD_eq_getElem?_getD]
/-- The row of a shelf is made out of the next one. -/
theorem taL_row {s : Nat} (hs : s < k.hs.length) : (taL k pz L).getD s [] = roR k pz L s ((taL k pz L).getD (s + 1) []) := by
  unfold taL
  rw [taN_getD _ s (by omega), taN_getD _ (s + 1) (by omega)]
  obtain ⟨g, hg⟩ : ∃ g, k.hs.length - s = g + 1 := ⟨k.hs.length - s - 1, by omega⟩
  rw [hg, show k.hs.length - (s + 1) = g by omega, taN, List.headD_cons, show k.hs.length - (g + 1) = s by omega]
theorem taL_last : (taL k pz L).getD k.hs.length [] = lastR L.length := by
  unfold taL
  rw [taN_getD _ _ (Nat.le_refl _), Nat.sub_self]
  rfl
theorem taL_at {s i : Nat} (hs : s < k.hs.length) (hi : i ≤ L.length) : tb (taL k pz L) s i = ceF k pz L s ((taL k pz L).getD (s + 1) []) i := by
  have h := taL_row (k := k) (pz := pz) (L := L) hs
  unfold tb
  rw [h, List.getD_eq_getElem?_getD, roR_at (by omega)]
  rfl
theorem taL_zero : tb (taL k pz L) k.hs.length L.length = 0 := by
  unfold tb
  rw [taL_last, lastR, List.getD_eq_getElem?_getD, List.getElem?_append_right (by simp)]
  simp
theorem taL_none {i : Nat} (hi : i < L.length) : tb (taL k pz L) k.hs.length i = -1 := by
  unfold tb
  rw [taL_last, lastR, List.getD_eq_getElem?_getD, List.getElem?_append_left (by simpa using hi), List.getElem?_replicate, if_pos hi]
  rfl
theorem taL_low (hp : PzOk k pz) (hL : FitOk L) (s m : Nat) : -1 ≤ tb (taL k pz L) s m := by
  unfold tb
  rw [List.getD_eq_getElem?_getD (l := taL k pz L)]
  cases e : (taL k pz L)[s]? with
  | none => show -1 ≤ ([] : List Int).getD m 0; simp
  | some r => exact ((taN_bd hp hL k.hs.length r (List.mem_of_getElem? e)).getD (by omega) m).1
/-- No end of a shelf does better. -/
theorem taL_le (hp : PzOk k pz) (hL : FitOk L) {s i m : Nat} (hs : s < k.hs.length) (hi : i ≤ m) (hm : m ≤ L.length) (hf : fitL k s (subL L (i : Int) (m : Int)) = true) (hr : tb (taL k pz L) (s + 1) m ≠ -1) :
    tb (taL k pz L) s i ≠ -1 ∧ tb (taL k pz L) s i ≤ tb (taL k pz L) (s + 1) m + pz (subL L (i : Int) (m : Int)) := by
  rw [taL_at hs (by omega)]
  exact ceR_low hp hL (fun m => taL_low hp hL (s + 1) m) i _ _ _ (by omega) m hi (by omega) (fun j _ h => fit_mono hL h hf) hr
/-- One end of a shelf does as well. -/
theorem taL_ex {s i : Nat} (hs : s < k.hs.length) (hi : i ≤ L.length) (h : tb (taL k pz L) s i ≠ -1) :
    ∃ m, i ≤ m ∧ m ≤ L.length ∧ fitL k s (subL L (i : Int) (m : Int)) = true ∧ tb (taL k pz L) (s + 1) m ≠ -1 ∧ tb (taL k pz L) (s + 1) m + pz (subL L (i : Int) (m : Int)) = tb (taL k pz L) s i := by
  rw [taL_at hs hi] at h ⊢
  rcases ceR_ex (k := k) (pz := pz) (L := L) (s := s) (nx := (taL k pz L).getD (s + 1) []) i (L.length + 1 - i) i (-1) with h1 | ⟨m, h1, h2, h3, h4, h5⟩
  · exact absurd h1 h
  · exact ⟨m, h1, by omega, h3, h4, h5⟩
theorem taL_hit {s : Nat} (hs : s < k.hs.length) {i : Nat} (hi : i ≤ L.length) (h : tb (taL k pz L) s i ≠ -1) :
    fitL k s (subL L (i : Int) ((atN k pz L (taL k pz L) s i : Nat) : Int)) = true ∧ tb (taL k pz L) (s + 1) (atN k pz L (taL k pz L) s i) ≠ -1 ∧ tb (taL k pz L) (s + 1) (atN k pz L (taL k pz L) s i) + pz (subL L (i : Int) ((atN k pz L (taL k pz L) s i : Nat) : Int)) = tb (taL k pz L) s i := by
  obtain ⟨m, h1, h2, h3, h4, h5⟩ := taL_ex hs hi h
  have hm : hitB k pz L (taL k pz L) s i m = true := by
    unfold hitB
    rw [h3, Bool.true_and, Bool.and_eq_true]
    exact ⟨by simpa using h4, by simpa using h5⟩
  have := lastHit_hit (p := hitB k pz L (taL k pz L) s i) (i := i) (g := L.length + 1 - i) ⟨m, h1, by omega, hm⟩
  change hitB k pz L (taL k pz L) s i (atN k pz L (taL k pz L) s i) = true at this
  generalize atN k pz L (taL k pz L) s i = a at this ⊢
  unfold hitB at this
  simp only [Bool.and_eq_true, bne_iff_ne, beq_iff_eq] at this
  exact this
/-- What the ends so far cost, with the rest. -/
theorem bs_sum (h : tb (taL k pz L) 0 0 ≠ -1) : ∀ s, s ≤ k.hs.length → tb (taL k pz L) s (bsAt k pz L (taL k pz L) s) ≠ -1 ∧ sumN (fun t => pz (subL L ((bsAt k pz L (taL k pz L) t : Nat) : Int) ((bsAt k pz L (taL k pz L) (t + 1) : Nat) : Int))) s + tb (taL k pz L) s (bsAt k pz L (taL k pz L) s) = tb (taL k pz L) 0 0
  | 0, _ => ⟨h, by show (0 : Int) + _ = _; rw [Int.zero_add]; rfl⟩
  | s + 1, hs => by
    obtain ⟨h1, h2⟩ := bs_sum h s (by omega)
    obtain ⟨_, h4, h5⟩ := taL_hit (k := k) (pz := pz) (L := L) (s := s) (by omega) (bsAt_le k pz L _ s) h1
    refine ⟨h4, ?_⟩
    rw [sumN, ← h2, ← h5]
    have e : bsAt k pz L (taL k pz L) (s + 1) = atN k pz L (taL k pz L) s (bsAt k pz L (taL k pz L) s) := rfl
    rw [e]
    omega
theorem bs_last (h : tb (taL k pz L) 0 0 ≠ -1) : bsAt k pz L (taL k pz L) k.hs.length = L.length := by
  have h1 := (bs_sum h k.hs.length (Nat.le_refl _)).1
  have h2 := bsAt_le k pz L (taL k pz L) k.hs.length
  by_cases e : bsAt k pz L (taL k pz L) k.hs.length < L.length
  · exact absurd (taL_none e) h1
  · omega
theorem bsEnds_at {T : List (List Int)} {n j : Nat} (hj : j < n) : (bsEnds k pz L T n).getD j 0 = (bsAt k pz L T (j + 1) : Int) := by
  unfold bsEnds
  rw [List.getD_eq_getElem?_getD, List.getElem?_map, List.getElem?_range hj]
  rfl
theorem bsEnds_bef {T : List (List Int)} {n j : Nat} (hj : j ≤ n) : bef (bsEnds k pz L T n) j = (bsAt k pz L T j : Int) := by
  unfold bef
  split
  · rename_i h; subst h; rfl
  · rw [bsEnds_at (by omega), show j - 1 + 1 = j by omega]
/-- The best ends are a layout. -/
theorem bs_lay (hv : vCase k = true) (hb : vBooks L = true) (h : tb (taL k pz L) 0 0 ≠ -1) : LayP k L (bsEnds k pz L (taL k pz L) k.hs.length) := by
  have hl := bsEnds_len k pz L (taL k pz L) k.hs.length
  refine ⟨hl, fun j hj => ?_, ?_, hv, hb⟩
  · rw [hl] at hj
    rw [bsEnds_at hj, bsEnds_bef (by omega)]
    have h1 := (bs_sum h j (by omega)).1
    have h2 := bsAt_le k pz L (taL k pz L) j
    have h3 := atN_bd (k := k) (pz := pz) (T := taL k pz L) (s := j) h2
    have h4 := (taL_hit hj h2 h1).1
    refine ⟨?_, h4⟩
    show (_ : Int) ≤ ((atN k pz L (taL k pz L) j (bsAt k pz L (taL k pz L) j) : Nat) : Int) ∧ _
    exact ⟨by omega, by show ((atN k pz L (taL k pz L) j (bsAt k pz L (taL k pz L) j) : Nat) : Int) ≤ _; omega⟩
  · rw [hl, bsEnds_bef (Nat.le_refl _), bs_last h]
theorem sumN_congr {f g : Nat → Int} : ∀ n, (∀ t, t < n → f t = g t) → sumN f n = sumN g n
  | 0, _ => rfl
  | n + 1, h => by rw [sumN, sumN, sumN_congr n (fun t ht => h t (by omega)), h n (by omega)]
/-- They cost what the table says. -/
theorem bs_cost (h : tb (taL k pz L) 0 0 ≠ -1) : sumN (fun t => pz (shB L (bsEnds k pz L (taL k pz L) k.hs.length) t)) k.hs.length = tb (taL k pz L) 0 0 := by
  have h1 := (bs_sum h k.hs.length (Nat.le_refl _)).2
  rw [bs_last h, taL_zero, Int.add_zero] at h1
  rw [← h1]
  refine sumN_congr _ (fun t ht => ?_)
  show pz (shB L _ t) = _
  unfold shB
  rw [bsEnds_at ht, bsEnds_bef (by omega)]
theorem sumN_split (f : Nat → Int) (n : Nat) : ∀ d, sumN f (n + d) = sumN f n + sumN (fun t => f (n + t)) d
  | 0 => by show _ = _ + (0 : Int); rw [Int.add_zero]; rfl
  | d + 1 => by
    rw [show n + (d + 1) = n + d + 1 by omega, sumN, sumN, sumN_split f n d]
    omega
theorem bef_nat {E : List Int} (hP : LayP k L E) : ∀ s, s ≤ E.length → 0 ≤ bef E s ∧ bef E s ≤ L.length
  | 0, _ => ⟨Int.le_refl _, by show (0 : Int) ≤ _; omega⟩
  | s + 1, h => by
    have h1 := bef_nat hP s (by omega)
    have h2 := (hP.s s (by omega)).1
    have e : bef E (s + 1) = E.getD s 0 := rfl
    rw [e]
    omega
/-- No layout costs less. -/
theorem lay_least (hp : PzOk k pz) {E : List Int} (hP : LayP k L E) : ∀ d s, s + d = k.hs.length → tb (taL k pz L) s (bef E s).toNat ≠ -1 ∧ tb (taL k pz L) s (bef E s).toNat ≤ sumN (fun t => pz (shB L E (s + t))) d
  | 0, s, h => by
    have e : s = E.length := by have := hP.n; omega
    have h1 := hP.last
    rw [e, h1, Int.toNat_natCast, hP.n, taL_zero]
    exact ⟨by decide, Int.le_refl _⟩
  | d + 1, s, h => by
    have hn := hP.n
    obtain ⟨h1, h2⟩ := lay_least hp hP d (s + 1) (by omega)
    have hb := bef_nat hP s (by omega)
    have hb1 := bef_nat hP (s + 1) (by omega)
    obtain ⟨h3, h4⟩ := hP.s s (by omega)
    have e : bef E (s + 1) = E.getD s 0 := rfl
    rw [e] at h1 h2 hb1
    have hf : fitL k s (subL L ((bef E s).toNat : Int) ((E.getD s 0).toNat : Int)) = true := by
      rw [Int.toNat_of_nonneg hb.1, Int.toNat_of_nonneg hb1.1]; exact h4
    obtain ⟨h5, h6⟩ := taL_le hp (FitOk.of hP.list) (s := s) (i := (bef E s).toNat) (m := (E.getD s 0).toNat) (by omega) (by omega) (by omega) hf h1
    refine ⟨h5, ?_⟩
    rw [show d + 1 = 1 + d by omega, sumN_split]
    have e2 : sumN (fun t => pz (shB L E (s + t))) 1 = pz (subL L ((bef E s).toNat : Int) ((E.getD s 0).toNat : Int)) := by
      rw [Int.toNat_of_nonneg hb.1, Int.toNat_of_nonneg hb1.1]
      show (0 : Int) + _ = _
      rw [Int.zero_add]
      rfl
    rw [e2]
    have e3 : sumN (fun t => pz (shB L E (s + (1 + t)))) d = sumN (fun t => pz (shB L E (s + 1 + t))) d := sumN_congr _ (fun t _ => by rw [show s + (1 + t) = s + 1 + t by omega])
    rw [e3]
    omega
theorem lay_low (hp : PzOk k pz) {E : List Int} (hP : LayP k L E) : tb (taL k pz L) 0 0 ≠ -1 ∧ tb (taL k pz L) 0 0 ≤ sumN (fun t => pz (shB L E t)) k.hs.length := by
  have := lay_least hp hP k.hs.length 0 (by omega)
  have e : sumN (fun t => pz (shB L E (0 + t))) k.hs.length = sumN (fun t => pz (shB L E t)) k.hs.length := sumN_congr _ (fun t _ => by rw [Nat.zero_add])
  rw [e] at this
  exact this
end
/-- Both costs. -/
theorem pzSq {k : Cs} (hk : CsBd k) : PzOk k (sqL k) := ⟨fun s M hM hf => sq_bd' hk hM hf⟩
theorem pzUs (k : Cs) : PzOk k usL := ⟨fun s M hM hf => by unfold usL; split <;> omega⟩
theorem cost_sq (k : Cs) (L : List Bk) (E : List Int) (n : Nat) : sumN (ssL k L E false) n = sumN (fun t => sqL k (shB L E t)) n := sumN_congr _ (fun t _ => rfl)
theorem cost_us (k : Cs) (L : List Bk) (E : List Int) (n : Nat) : sumN (ssL k L E true) n = sumN (fun t => usL (shB L E t)) n := sumN_congr _ (fun t _ => rfl)
/-- The table of least costs is a proof. -/
theorem taL_proof {k : Cs} {L : List Bk} (hk : CsBd k) (hL : FitOk L) : PfP k L (taL k (sqL k) L) := by
  refine ⟨taN_len _ _ _ _, fun r hr => taN_row _ _ _ _ r hr, fun r hr x hx => (taN_bd (pzSq hk) hL _ r hr x hx).1, fun i hi => taL_none hi, taL_zero, fun s hs i hi m h1 h2 h3 => ?_⟩
  unfold stP
  by_cases e : tb (taL k (sqL k) L) (s + 1) m = -1
  · exact .inl e
  · have := taL_le (pzSq hk) hL hs h1 h2 (h3 m h1 (Nat.le_refl _)) e
    exact .inr ⟨this.1, by omega⟩
def putTB (T : List (List Int)) (y : Int) : List (List Int) := T.set 0 ((T.getD 0 []).set 0 y)
theorem putTB_tb {T : List (List Int)} {y : Int} (h : 0 < T.length) (h2 : 0 < (T.getD 0 []).length) (s i : Nat) : tb (putTB T y) s i = if s = 0 ∧ i = 0 then y else tb T s i := by
  unfold tb putTB
  by_cases hs : s = 0
  · subst hs
    have e : (T.set 0 ((T.getD 0 []).set 0 y)).getD 0 [] = (T.getD 0 []).set 0 y := by
      rw [List.getD_eq_getElem?_getD, List.getElem?_set_self h]; rfl
    rw [e]
    by_cases hi : i = 0
    · subst hi
      rw [if_pos ⟨rfl, rfl⟩, List.getD_eq_getElem?_getD, List.getElem?_set_self h2]
      rfl
    · rw [if_neg (by omega), List.getD_eq_getElem?_getD, List.getElem?_set_ne (by omega), ← List.getD_eq_getElem?_getD]
  · rw [if_neg (by omega)]
    have e : (T.set 0 ((T.getD 0 []).set 0 y)).getD s [] = T.getD s [] := by
      rw [List.getD_eq_getElem?_getD, List.getElem?_set_ne (by omega), ← List.getD_eq_getElem?_getD]
    rw [e]
theorem taL_nonempty (k : Cs) (pz : List Bk → Int) (L : List Bk) : 0 < (taL k pz L).length ∧ 0 < ((taL k pz L).getD 0 []).length := by
  have h : 0 < (taL k pz L).length := by unfold taL; rw [taN_len]; omega
  refine ⟨h, ?_⟩
  have h2 : (taL k pz L)[0]? = some (taL k pz L)[0] := List.getElem?_eq_getElem h
  rw [List.getD_eq_getElem?_getD, h2]
  have := taN_row k pz L _ _ (List.mem_of_getElem? h2)
  show 0 < (taL k pz L)[0].length
  omega
/-- A table that says too much is no proof. -/
theorem taL_more {k : Cs} {L : List Bk} (hk : CsBd k) (hL : FitOk L) (h : tb (taL k (sqL k) L) 0 0 ≠ -1) : ¬ PfP k L (putTB (taL k (sqL k) L) (tb (taL k (sqL k) L) 0 0 + 1)) := fun hP => by
  obtain ⟨n1, n2⟩ := taL_nonempty k (sqL k) L
  obtain ⟨m, h1, h2, h3, h4, h5⟩ := taL_ex (k := k) (pz := sqL k) (L := L) (s := 0) (i := 0) (by have := hk.n; omega) (Nat.zero_le _) h
  have := hP.st 0 (by have := hk.n; omega) 0 (Nat.zero_le _) m h1 h2 (fun j _ hj => fit_mono hL hj h3)
  unfold stP at this
  rw [putTB_tb n1 n2, putTB_tb n1 n2, if_neg (by omega), if_pos ⟨rfl, rfl⟩] at this
  omega
/-- One that says less is one. -/
theorem taL_less {k : Cs} {L : List Bk} (hk : CsBd k) (hL : FitOk L) (h : tb (taL k (sqL k) L) 0 0 ≠ -1) (h0 : tb (taL k (sqL k) L) 0 0 ≠ 0) : PfP k L (putTB (taL k (sqL k) L) (tb (taL k (sqL k) L) 0 0 - 1)) ∧ 0 ≤ tb (taL k (sqL k) L) 0 0 - 1 := by
  obtain ⟨n1, n2⟩ := taL_nonempty k (sqL k) L
  have hlow := taL_low (pzSq hk) hL 0 0
  have hP := taL_proof hk hL
  have hn := hk.n
  have hmem : ∀ r, r ∈ putTB (taL k (sqL k) L) (tb (taL k (sqL k) L) 0 0 - 1) → r ∈ taL k (sqL k) L ∨ r = ((taL k (sqL k) L).getD 0 []).set 0 (tb (taL k (sqL k) L) 0 0 - 1) := fun r hr => by
    rcases List.mem_or_eq_of_mem_set hr with h | h
    · exact .inl h
    · exact .inr h
  have hr0 : (taL k (sqL k) L).getD 0 [] ∈ taL k (sqL k) L := by
    rw [List.getD_eq_getElem?_getD, List.getElem?_eq_getElem n1]
    exact List.getElem_mem n1
  refine ⟨⟨by unfold putTB; rw [List.length_set]; exact hP.len, fun r hr => ?_, fun r hr x hx => ?_, fun i hi => ?_, ?_, fun s hs i hi m h1 h2 h3 => ?_⟩, by omega⟩
  · rcases hmem r hr with h | rfl
    · exact hP.rows r h
    · rw [List.length_set]; exact hP.rows _ hr0
  · rcases hmem r hr with h | rfl
    · exact hP.low r h x hx
    · rcases List.mem_or_eq_of_mem_set hx with h | rfl
      · exact hP.low _ hr0 x h
      · omega
  · rw [putTB_tb n1 n2, if_neg (by omega)]; exact hP.last i hi
  · rw [putTB_tb n1 n2, if_neg (by omega)]; exact hP.zero
  · have h4 := hP.st s hs i hi m h1 h2 h3
    unfold stP at h4 ⊢
    rw [putTB_tb n1 n2, putTB_tb n1 n2, if_neg (by omega)]
    split
    · rename_i e
      obtain ⟨rfl, rfl⟩ := e
      omega
    · exact h4
end Go.Proofs.Ytdippdkneeocfaa
