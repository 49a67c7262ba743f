/- A list is an order: the program's ValidOrder and the reference's. -/
import Derived.Test.YtgdhopcbiekhhaaCmpT
import Derived.Test.YtgdhopcbiekhhaaMapB
import Derived.Test.YtgdhopcbiekhhaaScal
import Derived.Maps.OwnOps
import Derived.Maps.OwnSet
import Derived.StillTailTactics
import Derived.Still
namespace Go.Proofs.Ytgdhopcbiekhhaa
open Go.RowKit Go.Proofs.YtgdhopcbiekhhaaW.PrintWords Go.Proofs.YtgdhopcbiekhhaaW.PrintMore
set_option linter.unusedVariables false
set_option linter.unusedSimpArgs false
set_option maxRecDepth 100000

open Go.Maps (Keyed)
def ordAt (L : List Int) (k : Nat) : Bool := match L[k]? with
  | some x => inR (absF x) 1 6 && !decide (absF x ∈ (L.take k).map absF)
  | none => true
def vOrd (L : List Int) : Bool := decide (0 < L.length) && (List.range L.length).all (ordAt L)
theorem ordAt_of {L : List Int} {k : Nat} {x : Int} (h : L[k]? = some x) : ordAt L k = (inR (absF x) 1 6 && !decide (absF x ∈ (L.take k).map absF)) := by unfold ordAt; rw [h]
theorem vOrd_hit {L : List Int} {k : Nat} (hk : k < L.length) (h : ordAt L k = false) : vOrd L = false := by
  unfold vOrd
  rw [Bool.and_eq_false_iff]
  right
  rw [List.all_eq_false]
  exact ⟨k, List.mem_range.2 hk, by simp [h]⟩
theorem vOrd_all {L : List Int} (h : ∀ i, i < L.length → ordAt L i = true) : vOrd L = decide (0 < L.length) := by
  unfold vOrd
  rw [List.all_eq_true.2 (fun i hi => h i (List.mem_range.1 hi)), Bool.and_true]
theorem ord_next {L : List Int} {k : Nat} (h : ∀ i, i < k → ordAt L i = true) (hk : ordAt L k = true) : ∀ i, i < k + 1 → ordAt L i = true := by
  intro i hi
  by_cases e : i = k
  · rw [e]; exact hk
  · exact h i (by omega)
/-- Different numbers from 1 to n are at most n. -/
theorem few_of : ∀ (n : Nat) (M : List Int), M.Pairwise (fun x y => x ≠ y) → (∀ x, x ∈ M → 1 ≤ x ∧ x ≤ (n : Int)) → M.length ≤ n := by
  intro n
  induction n with
  | zero =>
    intro M _ h
    cases M with
    | nil => exact Nat.le_refl _
    | cons x M => have := h x List.mem_cons_self; omega
  | succ n ih =>
    intro M hp h
    have h1 := ih (M.filter (fun x => decide (x ≠ ((n + 1 : Nat) : Int)))) (hp.filter _) (fun x hx => by
      have h2 := List.mem_filter.1 hx
      have h3 := h x h2.1
      have h4 : x ≠ ((n + 1 : Nat) : Int) := by simpa using h2.2
      omega)
    have h5 : ∀ (M : List Int), M.Pairwise (fun x y => x ≠ y) → M.length ≤ (M.filter (fun x => decide (x ≠ ((n + 1 : Nat) : Int)))).length + 1 := by
      intro M hp
      induction M with
      | nil => simp
      | cons x M ih2 =>
        have hp2 := List.pairwise_cons.1 hp
        by_cases e : x = ((n + 1 : Nat) : Int)
        · rw [List.filter_cons_of_neg (by simp [e])]
          have : M.filter (fun x => decide (x ≠ ((n + 1 : Nat) : Int))) = M := by
            rw [List.filter_eq_self]
            intro y hy
            have := hp2.1 y hy
            simp only [ne_eq, decide_eq_true_eq]
            intro h6
            exact this (by rw [e, h6])
          rw [this]
          simp
        · rw [List.filter_cons_of_pos (by simpa using e)]
          have := ih2 hp2.2
          simp only [List.length_cons]
          omega
    have := h5 M hp
    omega
theorem ord_few {L : List Int} (h : ∀ i, i < L.length → ordAt L i = true) : L.length ≤ 6 := by
  have h1 := few_of 6 (L.map absF) (by
    rw [List.pairwise_iff_getElem]
    intro i j hi hj hij
    simp only [List.length_map] at hi hj
    have := h j hj
    rw [ordAt_of (List.getElem?_eq_getElem hj)] at this
    simp only [Bool.and_eq_true, Bool.not_eq_true', decide_eq_false_iff_not] at this
    rw [List.getElem_map, List.getElem_map]
    intro e
    exact this.2 (by rw [← e]; exact List.mem_map.2 ⟨L[i], List.mem_take_iff_getElem.2 ⟨i, by omega, rfl⟩, rfl⟩)) (by
    intro x hx
    obtain ⟨y, hy, rfl⟩ := List.mem_map.1 hx
    obtain ⟨i, hi, rfl⟩ := List.mem_iff_getElem.1 hy
    have := h i hi
    rw [ordAt_of (List.getElem?_eq_getElem hi)] at this
    simp only [Bool.and_eq_true] at this
    have := inR_iff.1 this.1
    omega)
  rwa [List.length_map] at h1
theorem ord_end {L : List Int} (h : ∀ i, i < L.length → ordAt L i = true) : inR (L.length : Int) 1 6 = vOrd L := by
  have := ord_few h
  rw [vOrd_all h, Bool.eq_iff_iff, inR_iff, decide_eq_true_eq]
  omega
theorem within8_c (n lo hi : Int) (w : World) : Calls Try.prog 90 #[.int .i8 n, .int .i8 lo, .int .i8 hi] w (RetS w (.bool (inR n lo hi))) := by
  go_enter Try.func90, Try.ntmps90
  go_wp2
  all_goals (go_ret; refine ⟨ret_bool ?_, rfl⟩; unfold inR; rw [Bool.eq_iff_iff]; simp; omega)
theorem withinI_c (n lo hi : Int) (w : World) : Calls Try.prog 92 #[.int .i64 n, .int .i64 lo, .int .i64 hi] w (RetS w (.bool (inR n lo hi))) := by
  go_enter Try.func92, Try.ntmps92
  go_wp2
  all_goals (go_ret; refine ⟨ret_bool ?_, rfl⟩; unfold inR; rw [Bool.eq_iff_iff]; simp; omega)
theorem key8 : Keyed Try.prog 94 := Maps.int_keyed Try.underlying94
theorem zeroB (w : World) : (zeroValue 4).run Try.prog w = .ok (.bool false) w := by kernel_rfl
theorem absF_i8 {x : Int} (h : I8 x) : I8 (absF x) := by unfold I8 absF at *; (repeat' split) <;> omega
theorem wf_i8 {x : Int} (h : I8 x) : (Lit.int .i8 x).wf = true := WalkArith.wf_i8 h
set_option maxHeartbeats 4000000 in
theorem ValidOrder_c (A : Option Addr) (c : Nat) (L : List Int) (w : World) (hL : (Kd.int .i8).C w A L.length L) (hk : ∀ x ∈ L, I8 x) :
    Calls Try.prog 29 #[.slice A L.length c] w (Ret w (.bool (vOrd L))) := by
  have hm := Kd.C_max hL
  have HL := Aside0.mk hL
  have HKK := Aside0.mk hk
  clear hL hk
  have hmm := @run_makeMap Try.prog
  go_enter Try.func29, Try.ntmps29
  go_wp2
  clear hmm
  go_loopg [9] L.length (fun gk v wr => ∃ k : Nat, k + gk = L.length ∧ v = .int .i64 k ∧ Aside0 (∀ i, i < k → ordAt L i = true) ∧ Aside0 (wr.ownsMap Try.prog 94 (plainElem Try.prog 4) w.heap.size k (setI .i8 ((L.take k).map absF))) ∧ Aside0 (Below w.heap.size w wr))
  case atStart => exact ⟨0, by omega, rfl, ⟨fun i h => absurd h (by omega)⟩, ⟨World.ownsMap_made _ _ _ _⟩, ⟨balloc (Below.refl _ _) _⟩⟩
  case round =>
    obtain ⟨k, hk, rfl, hp, hM, hb⟩ := hrel
    have HK := Aside0.mk hk
    by_cases hlt : k < L.length
    · obtain ⟨ad, x, rfl, hx, hc⟩ := at_int' (Kd.C_below HL.out hb.out) k (by omega)
      have hI := HKK.out x (mem_of hx.out)
      have HF := Aside0.mk (field_c x hI)
      have HO := Aside0.mk (ordAt_of hx.out)
      have HKY := Aside0.mk (Maps.keyOf_int_mk Try.underlying94 (wf_i8 (absF_i8 hI)))
      have HSN := Aside0.mk (setI_snoc .i8 ((L.take k).map absF) (absF x))
      have HTS := Aside0.mk (take_snoc hx.out)
      have HAT := Aside0.mk (setI_at .i8 (absF x) _ ((L.take k).map absF) rfl)
      clear hk hI
      obtain ⟨f, hf⟩ : ∃ f, absF x = f := ⟨_, rfl⟩
      rw [hf] at HF HO HKY HSN HAT
      have HFE := Aside0.mk hf
      clear hf
      cases h1 : inR f 1 6
      · have HR := Aside0.mk (vOrd_hit hlt (by rw [HO.out, h1]; rfl))
        have HW := Aside0.mk (fun W => within8_c f 1 6 W)
        rw [h1] at HW
        clear h1
        go_wp2_with (first | (go_at_call 91; refine (HF.out _).mono ?_; rintro _ w1 ⟨rfl, rfl⟩) | (go_at_call 90; refine (HW.out _).mono ?_; rintro _ w1 ⟨rfl, rfl⟩))
        go_ret
        exact ⟨ret_bool HR.out.symm, hb.out⟩
      · have HW := Aside0.mk (fun W => within8_c f 1 6 W)
        rw [h1] at HW
        by_cases h2 : f ∈ (L.take k).map absF
        · have HR := Aside0.mk (vOrd_hit hlt (by rw [HO.out, h1, decide_eq_true h2]; rfl))
          have HAT2 := Aside0.mk (show (setI .i8 ((L.take k).map absF)).atKey (.int .i8 f) (.lit (.bool false)) = .lit (.bool true) by rw [HAT.out, decide_eq_true h2])
          have hrun := lookup_bool hM.out key8 Try.underlying95 Try.underlying4 (zeroB _) HKY.out HAT2.out
          clear h1 h2
          go_wp2_with (first | (go_at_call 91; refine (HF.out _).mono ?_; rintro _ w1 ⟨rfl, rfl⟩) | (go_at_call 90; refine (HW.out _).mono ?_; rintro _ w1 ⟨rfl, rfl⟩))
          go_ret
          exact ⟨ret_bool HR.out.symm, hb.out⟩
        · have HR := Aside0.mk (ord_next hp.out (by rw [HO.out, h1, decide_eq_false h2]; rfl))
          have HAT2 := Aside0.mk (show (setI .i8 ((L.take k).map absF)).atKey (.int .i8 f) (.lit (.bool false)) = .lit (.bool false) by rw [HAT.out, decide_eq_false h2])
          have hrun := lookup_bool hM.out key8 Try.underlying95 Try.underlying4 (zeroB _) HKY.out HAT2.out
          clear h1 h2
          go_wp2_with (first | (go_at_call 91; refine (HF.out _).mono ?_; rintro _ w1 ⟨rfl, rfl⟩) | (go_at_call 90; refine (HW.out _).mono ?_; rintro _ w1 ⟨rfl, rfl⟩) | (at_mapUpdate; refine wpList_mapUpdate_own _ rfl _ _ _ 95 rfl 94 4 key8 Try.underlying95 _ w.heap.size k _ rfl hM.out (by unfold maxLen; omega) _ _ _ rfl rfl HKY.out _ [] (plainElem_bool Try.underlying4 true) ?_; intro w2 hM2 hg2; have HM2 := Aside0.mk hM2; have HG2 := Aside0.mk hg2; clear hM2 hg2))
          go_roundg (gk - 1)
          case measure => have := HK.out; omega
          case rel => exact ⟨k + 1, by have := HK.out; omega, by go_num, HR, ⟨by rw [HTS.out, List.map_append, List.map_cons, List.map_nil, HFE.out, HSN.out]; exact HM2.out⟩, ⟨hb.out.grown HG2.out hb.out.size (fun j hj => by injection hj with hj; omega)⟩⟩
    · have HR := Aside0.mk (ord_end (L := L) (fun i hi => hp.out i (by omega)))
      have HW := Aside0.mk (fun W => withinI_c (L.length : Int) 1 6 W)
      rw [HR.out] at HW
      clear hk
      go_wp2_with (go_at_call 92; refine (HW.out _).mono ?_; rintro _ w1 ⟨rfl, rfl⟩)
      go_ret
      exact ⟨rfl, hb.out⟩
/-- Seven bools: which numbers are among M. -/
def bsA (M : List Int) : Array Value := #[.bool (decide ((0 : Int) ∈ M)), .bool (decide ((1 : Int) ∈ M)), .bool (decide ((2 : Int) ∈ M)), .bool (decide ((3 : Int) ∈ M)), .bool (decide ((4 : Int) ∈ M)), .bool (decide ((5 : Int) ∈ M)), .bool (decide ((6 : Int) ∈ M))]
theorem bsA_at (M : List Int) {q : Nat} (h : q < 7) : (bsA M)[q]? = some (.bool (decide ((q : Int) ∈ M))) := by
  match q, h with
  | 0, _ => rfl
  | 1, _ => rfl
  | 2, _ => rfl
  | 3, _ => rfl
  | 4, _ => rfl
  | 5, _ => rfl
  | 6, _ => rfl
theorem bsA_set (M : List Int) {q : Nat} (h : q < 7) : (bsA M).setIfInBounds q (.bool true) = bsA (M ++ [(q : Int)]) := by
  match q, h with
  | 0, _ => simp [bsA, List.mem_append]
  | 1, _ => simp [bsA, List.mem_append]
  | 2, _ => simp [bsA, List.mem_append]
  | 3, _ => simp [bsA, List.mem_append]
  | 4, _ => simp [bsA, List.mem_append]
  | 5, _ => simp [bsA, List.mem_append]
  | 6, _ => simp [bsA, List.mem_append]
set_option maxHeartbeats 4000000 in
theorem l01Order_c (A : Option Addr) (c : Nat) (L : List Int) (w : World) (hL : (Kd.int .i8).C w A L.length L) (hk : ∀ x ∈ L, I8 x) :
    Calls Try.prog 89 #[.slice A L.length c] w (Ret w (.bool (vOrd L))) := by
  have hm := Kd.C_max hL
  have HL := Aside0.mk hL
  have HKK := Aside0.mk hk
  clear hL hk
  have H0 := Aside0.mk (blk_new w (.cells (bsA []) 134))
  have HB0 := Aside0.mk (balloc (Below.refl w.heap.size w) (.cells (bsA []) 134))
  simp only [bsA, List.not_mem_nil, decide_false] at H0 HB0
  go_enter Try.func89, Try.ntmps89
  go_wp2
  go_loopg [4] L.length (fun gk v wr => ∃ k : Nat, k + gk = L.length ∧ v = .int .i64 k ∧ Aside0 (∀ i, i < k → ordAt L i = true) ∧ Aside0 (wr.heap[w.heap.size]? = some (.cells (bsA ((L.take k).map absF)) 134 (0, 0))) ∧ Aside0 (Below w.heap.size w wr))
  case atStart => exact ⟨0, by omega, rfl, ⟨fun i h => absurd h (by omega)⟩, ⟨by simpa [bsA] using H0.out⟩, HB0⟩
  case round =>
    clear H0 HB0
    obtain ⟨k, hk, rfl, hp, hM, hb⟩ := hrel
    have HK := Aside0.mk hk
    by_cases hlt : k < L.length
    · obtain ⟨ad, x, rfl, hx, hc⟩ := at_int' (Kd.C_below HL.out hb.out) k (by omega)
      have hI := HKK.out x (mem_of hx.out)
      have HF := Aside0.mk (l01Field_c x hI)
      have HO := Aside0.mk (ordAt_of hx.out)
      have HTS := Aside0.mk (take_snoc hx.out)
      have i0 : (0 : Int) ≤ (k : Int) := by omega
      have i1 : (k : Int) < (L.length : Int) := by omega
      obtain ⟨f0, f9⟩ := absF_i8 hI
      clear hk hI
      cases h1 : inR (absF x) 1 6
      · have HR := Aside0.mk (vOrd_hit hlt (by rw [HO.out, h1]; rfl))
        have HW := Aside0.mk (fun W => l00In_c (absF x) 1 6 W)
        rw [h1] at HW
        clear h1 HO
        generalize absF x = f at HF HW f0 f9
        go_wp2_with (first | (go_at_call 135; refine (HF.out _).mono ?_; rintro _ w1 ⟨rfl, rfl⟩) | (go_at_call 86; refine (HW.out _).mono ?_; rintro _ w1 ⟨rfl, rfl⟩))
        go_ret
        exact ⟨ret_bool HR.out.symm, hb.out⟩
      · have HW := Aside0.mk (fun W => l00In_c (absF x) 1 6 W)
        rw [h1] at HW
        have h6 := inR_iff.1 h1
        clear f0 f9
        obtain ⟨q, hq⟩ : ∃ q : Nat, absF x = (q : Int) := ⟨(absF x).toNat, by omega⟩
        have HFE := Aside0.mk hq
        rw [hq] at HF HW HO h1 h6
        have q1 : (1 : Int) ≤ (q : Int) := h6.1
        have q6 : (q : Int) ≤ 6 := h6.2
        have q7 : (q : Int) < 7 := by omega
        have hq7 : q < 7 := by omega
        clear hq h6
        have hcell := (blk_cell hM.out q).trans (bsA_at _ hq7)
        have hfr := blk_frozen hM.out q
        have hlb := blk_lt hM.out
        have HST := Aside0.mk (blk_set hM.out q (.bool true))
        rw [bsA_set _ hq7] at HST
        by_cases h2 : (q : Int) ∈ (L.take k).map absF
        · have HR := Aside0.mk (vOrd_hit hlt (by rw [HO.out, h1, decide_eq_true h2]; rfl))
          rw [decide_eq_true h2] at hcell
          clear h1 h2 HO
          go_wp2_with (first | (go_at_call 135; refine (HF.out _).mono ?_; rintro _ w1 ⟨rfl, rfl⟩) | (go_at_call 86; refine (HW.out _).mono ?_; rintro _ w1 ⟨rfl, rfl⟩))
          go_ret
          exact ⟨ret_bool HR.out.symm, hb.out⟩
        · have HR := Aside0.mk (ord_next hp.out (by rw [HO.out, h1, decide_eq_false h2]; rfl))
          rw [decide_eq_false h2] at hcell
          clear h1 h2 HO
          go_wp2_with (first | (go_at_call 135; refine (HF.out _).mono ?_; rintro _ w1 ⟨rfl, rfl⟩) | (go_at_call 86; refine (HW.out _).mono ?_; rintro _ w1 ⟨rfl, rfl⟩))
          go_roundg (gk - 1)
          case measure => have := HK.out; omega
          case rel => exact ⟨k + 1, by have := HK.out; omega, by go_num, HR, ⟨by rw [HTS.out, List.map_append, List.map_cons, List.map_nil, HFE.out]; exact HST.out⟩, ⟨Below.setCell hb.out (by simp) _⟩⟩
    · have HR := Aside0.mk (vOrd_all (L := L) (fun i hi => hp.out i (by omega)))
      clear hk
      go_wp2
      go_ret
      exact ⟨ret_bool (by rw [HR.out]), hb.out⟩
theorem specValidOrder_c (A : Option Addr) (c : Nat) (L : List Int) (w : World) (hL : (Kd.int .i8).C w A L.length L) (hk : ∀ x ∈ L, I8 x) :
    Calls Try.prog 27 #[.slice A L.length c] w (Ret w (.bool (vOrd L))) := by
  have HX := Aside0.mk (l01Order_c A c L w hL hk)
  clear hL hk
  go_enter Try.func27, Try.ntmps27
  go_wp2_with (go_at_call 89; refine HX.out.mono ?_; rintro _ w1 ⟨rfl, hb1⟩)
  go_ret
  exact ⟨rfl, hb1⟩
end Go.Proofs.Ytgdhopcbiekhhaa
