/- Tables that are proofs: rows as slices, what a proof is. -/
import Derived.Test.YtdippdkneeocfaaTab
import Derived.Test.YtdippdkneeocfaaMovA
import Derived.Test.YtdippdkneeocfaaFill
import Derived.Test.YtdippdkneeocfaaCost
import Derived.StillTailTactics
import Derived.Still
import Derived.Deep.QuietTactic
import Derived.BigQuiet
import Derived.Deep.RegionHeld3
namespace Go.Proofs.Ytdippdkneeocfaa
open Go.RowKit Go.Proofs.YtdippdkneeocfaaW.PrintWords Go.Proofs.YtdippdkneeocfaaW.PrintMore
set_option linter.unusedVariables false
set_option linter.unusedSimpArgs false
set_option maxRecDepth 100000

/-- A row of a table as a value: its address, its capacity, its numbers. -/
structure SlI where
  A : Option Addr
  c : Nat
  L : List Int
def SlI.val (x : SlI) : Value := .slice x.A x.L.length x.c
def kSI : Kd SlI := Kd.flat (fun x => [x.val]) 1 (fun _ => rfl) (fun x u hu => by
  rw [List.mem_singleton.1 hu]
  rfl)
theorem at_si {xs : List SlI} {w : World} {A : Option Addr} {n : Nat} (h : kSI.C w A n xs) (i : Nat) (hi : i < n) :
    ∃ ad x, A = some ad ∧ Aside0 (xs[i]? = some x) ∧ w.cell? (ad.add i) = some (.slice x.A x.L.length x.c) := by
  have hl : i < xs.length := by have := Kd.C_len h; omega
  obtain ⟨ad, c, e, hc, hK, hcc⟩ := Kd.C_get h xs[i] i (by omega) (by omega)
  rw [Int.toNat_natCast] at hK hcc
  have hx : xs.getD i xs[i] = xs[i] := by simp [List.getD_eq_getElem?_getD, List.getElem?_eq_getElem hl]
  rw [hx] at hK
  have hK' : c = [xs[i].val] := hK
  subst hK'
  have hcc' : ∀ j u, [xs[i].val][j]? = some u → w.cell? (ad.add (i * 1 + j)) = some u := hcc
  have := hcc' 0 _ rfl
  refine ⟨ad, xs[i], e, ⟨List.getElem?_eq_getElem hl⟩, ?_⟩
  rw [show i * 1 + 0 = i by omega] at this
  exact this

theorem indexFuncSI_c (A : Option Addr) (c : Nat) (L : List SlI) (f : FuncId) (cap : Array Value) (p : SlI → Bool) (w : World)
    (hL : kSI.C w A L.length L) (hfn : Fun Try.prog f)
    (hf : ∀ W, Below w.heap.size w W → ∀ x, x ∈ L → Calls Try.prog f (#[x.val] ++ cap) W (Ret W (.bool (p x)))) :
    Calls Try.prog 201 #[.slice A L.length c, .func (.func f) #[] cap] w (Ret w (.int .i64 (idxF L p))) := by
  have hm := Kd.C_max hL
  have hcf := hfn.run
  have HF := Aside0.mk hf
  have HL := Aside0.mk hL
  clear hf hfn hL
  go_enter Try.func201, Try.ntmps201
  go_wp2
  go_loopg [8] L.length (fun gk v8 wr => ∃ k : Nat, k + gk = L.length ∧ v8 = .int .i64 k ∧ Aside0 (∀ x, x ∈ L.take k → p x = false) ∧ Aside0 (Below w.heap.size w wr))
  case atStart => exact ⟨0, by omega, rfl, ⟨by simp⟩, ⟨Below.refl _ _⟩⟩
  case round =>
    obtain ⟨k, hk, rfl, hp, hb⟩ := hrel
    have HK := Aside0.mk hk
    by_cases hlt : k < L.length
    · obtain ⟨ad, b, rfl, hbk, hx0⟩ := at_si (Kd.C_below HL.out hb.out) k (by omega)
      clear hk
      go_wp2_with (refine (HF.out _ hb.out _ (mem_of hbk.out)).mono ?_; rintro _ w1 ⟨rfl, hb1⟩)
      · rename_i hpb
        go_ret
        exact ⟨ret_int (idxF_hit hp.out hbk.out hpb).symm, bstep hb.out hb1⟩
      · rename_i hpb
        go_roundg (gk - 1)
        case measure => have := HK.out; omega
        case rel => exact ⟨k + 1, by have := HK.out; omega, by go_num, ⟨fun y hy => by rw [take_snoc hbk.out] at hy; rcases List.mem_append.1 hy with hy | hy; exact hp.out y hy; rw [List.mem_singleton.1 hy]; exact hpb⟩, ⟨bstep hb.out hb1⟩⟩
    · clear hk
      go_wp2
      go_ret
      refine ⟨ret_int (idxF_none ?_).symm, hb.out⟩
      have hp1 := hp.out
      rw [List.take_of_length_le (by omega)] at hp1
      exact hp1


theorem containsFuncSI_c (A : Option Addr) (c : Nat) (L : List SlI) (f : FuncId) (cap : Array Value) (p : SlI → Bool) (w : World)
    (hL : kSI.C w A L.length L) (hfn : Fun Try.prog f)
    (hf : ∀ W, Below w.heap.size w W → ∀ x, x ∈ L → Calls Try.prog f (#[x.val] ++ cap) W (Ret W (.bool (p x)))) :
    Calls Try.prog 192 #[.slice A L.length c, .func (.func f) #[] cap] w (Ret w (.bool (L.any p))) := by
  have HI := Aside0.mk (indexFuncSI_c A c L f cap p w hL hfn hf)
  clear hL hfn hf
  go_enter Try.func192, Try.ntmps192
  go_wp2_with (go_at_call 201; refine HI.out.mono ?_; rintro _ w1 ⟨rfl, hb1⟩)
  all_goals (go_ret; exact ⟨ret_bool (idxF_any L p), hb1⟩)


theorem allCloSI_c (x : SlI) (f : FuncId) (cap : Array Value) (g : Nat) (w : World) (r : Bool) (hc : w.cell? ⟨g, 0, none⟩ = some (.func (.func f) #[] cap)) (hg : g < w.heap.size)
    (hf : ∀ W, Below w.heap.size w W → Calls Try.prog f (#[x.val] ++ cap) W (Ret W (.bool r))) (hfn : Fun Try.prog f) :
    Calls Try.prog 193 #[x.val, .pointer (some ⟨g, 0, none⟩)] w (Ret w (.bool (!r))) := by
  have hcf := hfn.run
  have HF := Aside0.mk hf
  have hca : ∀ o, (w.alloc o).cell? ⟨g, 0, none⟩ = some (.func (.func f) #[] cap) := fun o => (World.cell?_alloc_lt w o _ hg).trans hc
  clear hf hfn
  simp only [SlI.val]
  go_enter Try.func193, Try.ntmps193
  go_wp2_with (refine (HF.out _ (by first | exact Below.refl _ _ | exact balloc (Below.refl _ _) _)).mono ?_; rintro _ w1 ⟨rfl, hb1⟩)
  all_goals (go_ret; exact ⟨rfl, by first | exact hb1 | exact bstep (balloc (Below.refl _ _) _) hb1⟩)
theorem areAllSI_c (A : Option Addr) (c : Nat) (L : List SlI) (f : FuncId) (cap : Array Value) (p : SlI → Bool) (w : World)
    (hL : kSI.C w A L.length L) (hfn : Fun Try.prog f)
    (hf : ∀ W, Below w.heap.size w W → ∀ x, x ∈ L → Calls Try.prog f (#[x.val] ++ cap) W (Ret W (.bool (p x)))) :
    Calls Try.prog 173 #[.slice A L.length c, .func (.func f) #[] cap] w (Ret w (.bool (L.all p))) := by
  have hcl : ∀ W, Below (w.alloc (.cells #[.func (.func f) #[] cap] 120)).heap.size (w.alloc (.cells #[.func (.func f) #[] cap] 120)) W → ∀ x, x ∈ L →
      Calls Try.prog 193 (#[x.val] ++ #[.pointer (some ⟨w.heap.size, 0, none⟩)]) W (Ret W (.bool (!(p x)))) := fun W hW x hx => by
    have h0 : W.cell? ⟨w.heap.size, 0, none⟩ = some (.func (.func f) #[] cap) := by
      rw [hW.cell (by simp)]; exact (blk_cell (blk_new w _) 0).trans rfl
    have hbW : Below w.heap.size w W := bstep (balloc (Below.refl _ _) _) hW
    exact allCloSI_c x f cap w.heap.size W (p x) h0 (by have := hW.size; simp at this; omega) (fun W' hW' => hf W' (bstep hbW hW') x hx) hfn
  have HI := Aside0.mk (containsFuncSI_c A c L 193 #[.pointer (some ⟨w.heap.size, 0, none⟩)] (fun x => !(p x)) (w.alloc (.cells #[.func (.func f) #[] cap] 120)) (Kd.C_alloc hL _) ⟨_, Try.func193, rfl, rfl⟩ hcl)
  clear hL hfn hf hcl
  go_enter Try.func173, Try.ntmps173
  go_wp2_with (go_at_call 192; refine HI.out.mono ?_; rintro _ w1 ⟨rfl, hb1⟩)
  all_goals (go_ret; exact ⟨ret_bool (by rw [List.all_eq_not_any_not]), bstep (balloc (Below.refl _ _) _) hb1⟩)

theorem si_of {w : World} {A : Option Addr} {T : List (List Int)} (h : kT.C w A T.length T) : ∃ X : List SlI, X.map SlI.L = T ∧ kSI.C w A X.length X ∧ ∀ x, x ∈ X → (Kd.int .i64).C w x.A x.L.length x.L := by
  have hm := Kd.C_max h
  have hs : ∀ m, m ≤ T.length → ∃ X : List SlI, X.map SlI.L = T.take m ∧ ∀ j p, X[j]? = some p → ∃ ad, A = some ad ∧ w.cell? (ad.add j) = some p.val ∧ (Kd.int .i64).C w p.A p.L.length p.L := by
    intro m
    induction m with
    | zero => exact fun _ => ⟨[], rfl, fun j p hj => by simp at hj⟩
    | succ m ih =>
      intro hlt
      obtain ⟨X, h1, h2⟩ := ih (by omega)
      obtain ⟨ad, r, A', c', e, hr, hx, hc, hC⟩ := at_row h m (by omega)
      have hl : X.length = m := by have := congrArg List.length h1; rw [List.length_map, List.length_take] at this; omega
      refine ⟨X ++ [⟨A', c', r⟩], by rw [List.map_append, h1, take_snoc hr.out]; rfl, fun j p hj => ?_⟩
      by_cases hjm : j < X.length
      · rw [List.getElem?_append_left hjm] at hj
        exact h2 j p hj
      · rw [List.getElem?_append_right (by omega)] at hj
        have hj0 : j - X.length = 0 := by
          have := (List.getElem?_eq_some_iff.1 hj).1
          simp at this
          omega
        rw [hj0] at hj
        have : p = ⟨A', c', r⟩ := by simpa using hj.symm
        subst this
        have hjm2 : j = m := by omega
        subst hjm2
        exact ⟨ad, e, hx, hC.out⟩
  obtain ⟨X, h1, h2⟩ := hs T.length (Nat.le_refl _)
  rw [List.take_length] at h1
  have hl : X.length = T.length := by rw [← h1, List.length_map]
  refine ⟨X, h1, ⟨rfl, by omega, fun h0 => ?_⟩, fun x hx => ?_⟩
  · obtain ⟨p, hp⟩ : ∃ p, X[0]? = some p := ⟨_, List.getElem?_eq_getElem (by omega)⟩
    obtain ⟨ad, e, _⟩ := h2 0 p hp
    refine ⟨ad, e, fun j p hj => ⟨[p.val], rfl, rfl, fun i u hu => ?_⟩⟩
    obtain ⟨ad', e', hx, _⟩ := h2 j p hj
    rw [e] at e'
    cases e'
    match i, hu with
    | 0, hu =>
      cases hu
      have : kSI.sz = 1 := rfl
      rw [this, Nat.mul_one, Nat.add_zero]
      exact hx
  · obtain ⟨i, hi⟩ := List.mem_iff_getElem?.1 hx
    exact (h2 i x hi).choose_spec.2.2
theorem pfNum_c (x : Int) (w : World) : Calls Try.prog 175 #[.int .i64 x] w (RetS w (.bool (decide (-1 ≤ x)))) := by
  go_enter Try.func175, Try.ntmps175
  go_wp2
  all_goals (go_ret; exact ⟨ret_bool (by simp), rfl⟩)
def rowOkB (n : Nat) (r : List Int) : Bool := decide (r.length = n + 1) && r.all (fun y => decide (-1 ≤ y))
set_option maxHeartbeats 1000000 in
theorem pfRow_c (x : SlI) (g n : Nat) (hn : n ≤ 60) (w : World) (hg : w.cell? ⟨g, 0, none⟩ = some (.int .i64 n)) (hC : (Kd.int .i64).C w x.A x.L.length x.L) :
    Calls Try.prog 174 #[x.val, .pointer (some ⟨g, 0, none⟩)] w (Ret w (.bool (rowOkB n x.L))) := by
  have hm := Kd.C_max hC
  have HA := Aside0.mk (areAllI64_c x.A x.c x.L 175 #[] (fun y => decide (-1 ≤ y)) w hC ⟨_, Try.func175, rfl, rfl⟩ (fun W hW y hy => (pfNum_c y W).mono fun e w' h => h.ret))
  simp only [SlI.val]
  clear hC
  by_cases hl : x.L.length = n + 1
  · have HR := Aside0.mk (show rowOkB n x.L = x.L.all (fun y => decide (-1 ≤ y)) by unfold rowOkB; rw [decide_eq_true hl]; rfl)
    have hb : ((x.L.length : Int) == (n : Int) + 1) = true := by simp; omega
    generalize x.L.all (fun y => decide (-1 ≤ y)) = b at HA HR
    clear hl
    go_enter Try.func174, Try.ntmps174
    go_wp2_with fail
    refine HA.out.mono ?_; rintro _ w1 ⟨rfl, hb1⟩
    go_wp2_with fail
    go_ret
    exact ⟨ret_bool HR.out.symm, hb1⟩
  · have HR := Aside0.mk (show rowOkB n x.L = false by unfold rowOkB; rw [decide_eq_false hl]; rfl)
    have hb : ((x.L.length : Int) == (n : Int) + 1) = false := by simp; omega
    clear hl HA
    go_enter Try.func174, Try.ntmps174
    go_wp2_with fail
    go_ret
    exact ⟨ret_bool HR.out.symm, Below.refl _ _⟩
/-- The number in row s at place i. -/
def tb (T : List (List Int)) (s i : Nat) : Int := (T.getD s []).getD i 0
theorem tb_at {T : List (List Int)} {s i : Nat} {r : List Int} {x : Int} (h : T[s]? = some r) (h2 : r[i]? = some x) : tb T s i = x := by
  have h1 : T.getD s [] = r := by rw [List.getD_eq_getElem?_getD, h]; rfl
  unfold tb
  rw [h1, List.getD_eq_getElem?_getD, h2]
  rfl
/-- What is asked of the books from i to m on shelf s. -/
def stP (k : Cs) (L : List Bk) (T : List (List Int)) (s i m : Nat) : Prop := tb T (s + 1) m = -1 ∨ (tb T s i ≠ -1 ∧ tb T s i - sqL k (subL L i m) ≤ tb T (s + 1) m)
def roP (k : Cs) (L : List Bk) (T : List (List Int)) (s i : Nat) : Prop := ∀ m, i ≤ m → m ≤ L.length → (∀ j, i ≤ j → j ≤ m → fitL k s (subL L i j) = true) → stP k L T s i m
structure PfP (k : Cs) (L : List Bk) (T : List (List Int)) : Prop where
  len : T.length = k.hs.length + 1
  rows : ∀ r, r ∈ T → r.length = L.length + 1
  low : ∀ r, r ∈ T → ∀ x, x ∈ r → -1 ≤ x
  last : ∀ i, i < L.length → tb T k.hs.length i = -1
  zero : tb T k.hs.length L.length = 0
  st : ∀ s, s < k.hs.length → ∀ i, i ≤ L.length → roP k L T s i
open Classical in
noncomputable def prf (k : Cs) (L : List Bk) (T : List (List Int)) : Bool := decide (PfP k L T)
open Classical in
theorem prf_yes {k : Cs} {L : List Bk} {T : List (List Int)} (h : PfP k L T) : prf k L T = true := by unfold prf; exact decide_eq_true h
open Classical in
theorem prf_no {k : Cs} {L : List Bk} {T : List (List Int)} (h : ¬ PfP k L T) : prf k L T = false := by unfold prf; exact decide_eq_false h
theorem all_rows {L : List Bk} {T : List (List Int)} {X : List SlI} (hX : X.map SlI.L = T) : X.all (fun x => rowOkB L.length x.L) = true ↔ ((∀ r, r ∈ T → r.length = L.length + 1) ∧ ∀ r, r ∈ T → ∀ x, x ∈ r → -1 ≤ x) := by
  subst hX
  simp only [List.all_eq_true, rowOkB, Bool.and_eq_true, decide_eq_true_eq, List.mem_map, forall_exists_index, and_imp, forall_apply_eq_imp_iff₂]
  exact ⟨fun h => ⟨fun x hx => (h x hx).1, fun x hx => (h x hx).2⟩, fun h x hx => ⟨h.1 x hx, h.2 x hx⟩⟩
end Go.Proofs.Ytdippdkneeocfaa
