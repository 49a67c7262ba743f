/- Layouts in plain Lean: filled ones are layouts; The great laws' words: A2Same, A2SameTable, a2Long; The best layouts: what the law asks, in plain Lean. -/
import Derived.Test.YtdippdkneeocfaaTabD
import Derived.Test.YtdippdkneeocfaaTab
import Derived.Test.YtdippdkneeocfaaBestIL
import Derived.Test.YtdippdkneeocfaaChkX
import Derived.Test.YtdippdkneeocfaaGenY
import Derived.StillTailTactics
import Derived.Still
import Derived.Deep.QuietTactic
import Derived.BigQuiet
import Derived.Deep.RegionHeld3
namespace Go.Proofs.Ytdippdkneeocfaa
open Go.RowKit Go.Proofs.YtdippdkneeocfaaW.PrintWords Go.Proofs.YtdippdkneeocfaaW.PrintMore
set_option linter.unusedVariables false
set_option linter.unusedSimpArgs false
set_option maxRecDepth 100000

theorem badGo_all {k : Cs} {L : List Bk} {E : List Int} (h : LayP k L E) : ∀ g s, s + g = k.hs.length → badGo k L E g s (bef E s) = -1
  | 0, s, e => by
    have hn := h.n
    have hl := h.last
    rw [badGo, if_pos]
    rw [show s = E.length by omega]
    exact ⟨hl, by omega⟩
  | g + 1, s, e => by
    have hn := h.n
    have h1 := h.s s (by omega)
    rw [badGo, if_pos ⟨by omega, h1.1, h1.2⟩]
    exact badGo_all h g (s + 1) (by omega)
theorem layC_of {k : Cs} {L : List Bk} {E : List Int} (h : LayP k L E) : layC k L E = 0 := by
  rw [lay_0 (eCL_0 h.case h.list)]
  have := badGo_all h k.hs.length 0 (by omega)
  rw [if_neg]
  unfold badL
  rw [show badGo k L E k.hs.length 0 0 = badGo k L E k.hs.length 0 (bef E 0) from rfl, this]
  decide
/-- A shelf that is filled. -/
theorem flEnd_fit {k : Cs} {s : Nat} {L : List Bk} {a : Nat} : ∀ (g t : Nat), fitL k s (subL L (a : Int) (t : Int)) = true → fitL k s (subL L (a : Int) ((flEnd k s L a g t : Nat) : Int)) = true
  | 0, t, h => h
  | g + 1, t, h => by
    rw [flEnd]
    split
    · rename_i h1
      exact flEnd_fit g (t + 1) (by have := h1.2; rw [show ((t + 1 : Nat) : Int) = (t : Int) + 1 by omega]; exact this)
    · exact h
theorem fit_nil {k : Cs} (hk : CsBd k) (s a : Nat) (L : List Bk) : fitL k s (subL L (a : Int) (a : Int)) = true := by
  have e : subL L (a : Int) (a : Int) = [] := by unfold subL; rw [List.drop_eq_nil_of_le (by rw [List.length_take]; omega)]
  rw [e]
  have := hk.h s
  have h1 := hk.wd
  have h2 := hk.ld
  have e0 : totL [] = ⟨0, 0, 0⟩ := rfl
  unfold fitL fitT
  rw [e0]
  simp only [Bool.and_eq_true, decide_eq_true_eq]
  exact ⟨by omega, by omega, by omega⟩
theorem flEnds_at {k : Cs} {L : List Bk} {n j : Nat} (hj : j < n) : (flEnds k L n).getD j 0 = (flAt k L (j + 1) : Int) := by
  unfold flEnds
  rw [List.getD_eq_getElem?_getD, List.getElem?_map, List.getElem?_range hj]
  rfl
theorem flEnds_bef {k : Cs} {L : List Bk} {n j : Nat} (hj : j ≤ n) : bef (flEnds k L n) j = (flAt k L j : Int) := by
  unfold bef
  split
  · rename_i h; subst h; rfl
  · rw [flEnds_at (by omega), show j - 1 + 1 = j by omega]
theorem fl_lay {k : Cs} {L : List Bk} (hv : vCase k = true) (hb : vBooks L = true) (h : ¬ flAt k L k.hs.length < L.length) : LayP k L (flEnds k L k.hs.length) := by
  have hl := flEnds_len k L k.hs.length
  refine ⟨hl, fun j hj => ?_, ?_, hv, hb⟩
  · rw [hl] at hj
    rw [flEnds_at hj, flEnds_bef (by omega)]
    have h1 := flEnd_le k j L (flAt k L j) (L.length - flAt k L j) (flAt k L j)
    have h2 := flAt_le k L (j + 1)
    exact ⟨⟨by show _ ≤ ((flEnd k j L (flAt k L j) (L.length - flAt k L j) (flAt k L j) : Nat) : Int); omega, by omega⟩, flEnd_fit _ _ (fit_nil (vCase_bd hv) j _ L)⟩
  · have := flAt_le k L k.hs.length
    rw [hl, flEnds_bef (Nat.le_refl _)]
    omega
set_option maxHeartbeats 2000000 in
theorem l00Same_c (A A' : Option Addr) (c c' : Nat) (L L' : List Int) (w : World) (hL : (Kd.int .i64).C w A L.length L) (hL' : (Kd.int .i64).C w A' L'.length L') : Calls Try.prog 156 #[.slice A L.length c, .slice A' L'.length c'] w (Ret w (.bool (decide (L = L')))) := by
  have hm := Kd.C_max hL
  have hm' := Kd.C_max hL'
  have HL := Aside0.mk hL
  have HL' := Aside0.mk hL'
  clear hL hL'
  by_cases hll : L.length = L'.length
  · have HLL := Aside0.mk hll
    have hb0 : ((L.length : Int) != (L'.length : Int)) = false := by simp [hll]
    have hb0' : (L.length != L'.length) = false := by simp [hll]
    clear hll
    go_enter Try.func156, Try.ntmps156
    go_wp2
    go_loopg [5] L.length (fun gk v wr => ∃ k : Nat, k + gk = L.length ∧ v = .int .i64 k ∧ Aside0 (L.take k = L'.take k) ∧ Aside0 (Below w.heap.size w wr))
    case atStart => exact ⟨0, by omega, rfl, ⟨by simp⟩, ⟨Below.refl _ _⟩⟩
    case round =>
      clear hb0 hb0'
      obtain ⟨k, hk, rfl, hp, hb⟩ := hrel
      have HK := Aside0.mk hk
      by_cases hlt : k < L.length
      · have hlt' : k < L'.length := by have := HLL.out; omega
        obtain ⟨ad, x, rfl, hbk, x0⟩ := at_int' (Kd.C_below HL.out hb.out) k (by omega)
        obtain ⟨ad', y, rfl, hbk', y0⟩ := at_int' (Kd.C_below HL'.out hb.out) k (by omega)
        clear hk
        have i0 : (0 : Int) ≤ (k : Int) := by omega
        have i1 : (k : Int) < (L.length : Int) := by omega
        have i2 : (k : Int) < (L'.length : Int) := by omega
        by_cases hxy : x = y
        · have HN := Aside0.mk (show L.take (k + 1) = L'.take (k + 1) by rw [take_snoc hbk.out, take_snoc hbk'.out, hp.out, hxy])
          have hd : (x != y) = false := by simp [hxy]
          clear hxy
          go_wp2_with fail
          go_quiet (fail)
          go_wp2
          go_roundg (gk - 1)
          case measure => have := HK.out; omega
          case rel => exact ⟨k + 1, by have := HK.out; omega, by go_num, HN, ⟨bdrewN hb.out _⟩⟩
        · have HN := Aside0.mk (show L ≠ L' from fun h => hxy (by have h1 := hbk.out; rw [h, hbk'.out] at h1; injection h1 with h1; exact h1.symm))
          have hd : (x != y) = true := by simpa using hxy
          clear hxy
          go_wp2_with fail
          go_quiet (fail)
          go_wp2
          go_ret
          exact ⟨ret_bool (decide_eq_false HN.out).symm, bdrewN hb.out _⟩
      · have HE := Aside0.mk (show L = L' by have h1 := hp.out; have h2 := HLL.out; rwa [List.take_of_length_le (by omega), List.take_of_length_le (by omega)] at h1)
        clear hk
        go_wp2
        go_ret
        exact ⟨ret_bool (decide_eq_true HE.out).symm, hb.out⟩
  · have hb0 : ((L.length : Int) != (L'.length : Int)) = true := by simp; omega
    have hb0' : (L.length != L'.length) = true := by simpa using hll
    have HN := Aside0.mk (show L ≠ L' from fun h => hll (by rw [h]))
    clear hll
    go_enter Try.func156, Try.ntmps156
    go_wp2
    all_goals (go_ret; exact ⟨ret_bool (decide_eq_false HN.out).symm, Below.refl _ _⟩)
set_option maxHeartbeats 2000000 in
theorem A2SameTable_c (A A' : Option Addr) (c c' : Nat) (T T' : List (List Int)) (w : World) (hT : kT.C w A T.length T) (hT' : kT.C w A' T'.length T') :
    Calls Try.prog 95 #[.slice A T.length c, .slice A' T'.length c'] w (Ret w (.bool (decide (T = T')))) := by
  have hm := Kd.C_max hT
  have hm' := Kd.C_max hT'
  have HL := Aside0.mk hT
  have HL' := Aside0.mk hT'
  clear hT hT'
  by_cases hll : T.length = T'.length
  · have HLL := Aside0.mk hll
    have hb0 : ((T.length : Int) != (T'.length : Int)) = false := by simp [hll]
    have hb0' : (T.length != T'.length) = false := by simp [hll]
    clear hll
    go_enter Try.func95, Try.ntmps95
    go_wp2
    go_loopg [5] T.length (fun gk v wr => ∃ k : Nat, k + gk = T.length ∧ v = .int .i64 k ∧ Aside0 (T.take k = T'.take k) ∧ Aside0 (Below w.heap.size w wr))
    case atStart => exact ⟨0, by omega, rfl, ⟨by simp⟩, ⟨Below.refl _ _⟩⟩
    case round =>
      clear hb0 hb0'
      obtain ⟨k, hk, rfl, hp, hb⟩ := hrel
      have HK := Aside0.mk hk
      by_cases hlt : k < T.length
      · have hlt' : k < T'.length := by have := HLL.out; omega
        obtain ⟨ad, r, B, d, rfl, hbr, hxr, hc, hCr⟩ := at_row (Kd.C_below HL.out hb.out) k hlt
        obtain ⟨ad', r', B', d', rfl, hbr', hxr', hc', hCr'⟩ := at_row (Kd.C_below HL'.out hb.out) k hlt'
        have HEQ := Aside0.mk (fun (W : World) h h' => l00Same_c B B' d d' r r' W h h')
        have hxO := fun p : Over wr => Over.cell hxr p
        have hxO' := fun p : Over wr => Over.cell hxr' p
        have i0 : (0 : Int) ≤ (k : Int) := by omega
        have i1 : (k : Int) < (T.length : Int) := by omega
        have i2 : (k : Int) < (T'.length : Int) := by omega
        clear hk
        by_cases hrr : r = r'
        · have HN := Aside0.mk (show T.take (k + 1) = T'.take (k + 1) by rw [take_snoc hbr.out, take_snoc hbr'.out, hp.out, hrr])
          simp only [decide_eq_true hrr] at HEQ
          clear hrr
          go_wp2_with fail
          refine region_over (by kernel_rfl) (by kernel_rfl) ?_
          repeat (go_big_quiet_step (first | (go_at_call 156; exact Calls.over_of (HEQ.out _ (Kd.C_below hCr.out (Over.h _)) (Kd.C_below hCr'.out (Over.h _))))))
          refine wpQuiet_nil ?_
          intro wq1 hw'
          have hq_wq1 := over_out hw'
          clear hw'
          have HB1 := Aside0.mk (bstep hb.out hq_wq1)
          clear hq_wq1 hCr hCr' hxO hxO'
          go_wp2
          go_roundg (gk - 1)
          case measure => have := HK.out; omega
          case rel => exact ⟨k + 1, by have := HK.out; omega, by go_num, HN, HB1⟩
        · have HN := Aside0.mk (show T ≠ T' from fun h => hrr (by have h1 := hbr.out; rw [h, hbr'.out] at h1; exact (Option.some.inj h1).symm))
          simp only [decide_eq_false hrr] at HEQ
          clear hrr
          go_wp2_with fail
          refine region_over (by kernel_rfl) (by kernel_rfl) ?_
          repeat (go_big_quiet_step (first | (go_at_call 156; exact Calls.over_of (HEQ.out _ (Kd.C_below hCr.out (Over.h _)) (Kd.C_below hCr'.out (Over.h _))))))
          refine wpQuiet_nil ?_
          intro wq1 hw'
          have hq_wq1 := over_out hw'
          clear hw'
          have HB1 := Aside0.mk (bstep hb.out hq_wq1)
          clear hq_wq1 hCr hCr' hxO hxO'
          go_wp2
          go_ret
          exact ⟨ret_bool (decide_eq_false HN.out).symm, HB1.out⟩
      · have HE := Aside0.mk (show T = T' by have h1 := hp.out; have h2 := HLL.out; rwa [List.take_of_length_le (by omega), List.take_of_length_le (by omega)] at h1)
        clear hk
        go_wp2
        go_ret
        exact ⟨ret_bool (decide_eq_true HE.out).symm, hb.out⟩
  · have hb0 : ((T.length : Int) != (T'.length : Int)) = true := by simp; omega
    have hb0' : (T.length != T'.length) = true := by simpa using hll
    have HN := Aside0.mk (show T ≠ T' from fun h => hll (by rw [h]))
    clear hll
    go_enter Try.func95, Try.ntmps95
    go_wp2
    all_goals (go_ret; exact ⟨ret_bool (decide_eq_false HN.out).symm, Below.refl _ _⟩)
theorem A2Same_c (A A' : Option Addr) (c c' : Nat) (L L' : List Int) (w : World) (hL : (Kd.int .i64).C w A L.length L) (hL' : (Kd.int .i64).C w A' L'.length L') :
    Calls Try.prog 94 #[.slice A L.length c, .slice A' L'.length c'] w (Ret w (.bool (decide (L = L')))) := by
  have HS := Aside0.mk (l00Same_c A A' c c' L L' w hL hL')
  generalize decide (L = L') = b at HS ⊢
  clear hL hL'
  go_enter Try.func94, Try.ntmps94
  go_wp2_with fail
  refine HS.out.mono ?_; rintro _ w1 ⟨rfl, hb⟩
  have HB := Aside0.mk hb
  clear hb
  go_wp2
  go_ret
  exact ⟨rfl, HB.out⟩
theorem a2Long_c (A A' : Option Addr) (n n' c c' : Nat) (hn : n ≤ 9223372036854775807) (hn' : n' ≤ 9223372036854775807) (w : World) :
    Calls Try.prog 83 #[.slice A n c, .slice A' n' c'] w (RetS w (.bool (decide (3000 < n ∨ 3000 < n')))) := by
  by_cases h1 : 3000 < n
  · rw [decide_eq_true (Or.inl h1)]
    have h1' : (3000 : Int) < (n : Int) := by omega
    go_enter Try.func83, Try.ntmps83
    go_wp2
    go_ret
    exact ⟨rfl, rfl⟩
  · by_cases h2 : 3000 < n'
    · rw [decide_eq_true (Or.inr h2)]
      have h1' : ¬ ((3000 : Int) < (n : Int)) := by omega
      have h2' : (3000 : Int) < (n' : Int) := by omega
      go_enter Try.func83, Try.ntmps83
      go_wp2
      go_ret
      exact ⟨rfl, rfl⟩
    · rw [decide_eq_false (by omega)]
      have h1' : ¬ ((3000 : Int) < (n : Int)) := by omega
      have h2' : ¬ ((3000 : Int) < (n' : Int)) := by omega
      go_enter Try.func83, Try.ntmps83
      go_wp2
      go_ret
      exact ⟨rfl, rfl⟩
theorem sq_us {k : Cs} {L : List Bk} (hv : vCase k = true) (hb : vBooks L = true) : tb (taL k (sqL k) L) 0 0 = -1 ↔ tb (taL k usL L) 0 0 = -1 := by
  constructor
  · intro h
    by_cases h2 : tb (taL k usL L) 0 0 = -1
    · exact h2
    · exact absurd h (lay_low (pzSq (vCase_bd hv)) (bs_lay hv hb h2)).1
  · intro h
    by_cases h2 : tb (taL k (sqL k) L) 0 0 = -1
    · exact h2
    · exact absurd h (lay_low (pzUs k) (bs_lay hv hb h2)).1
theorem fill_none {k : Cs} {L : List Bk} (hv : vCase k = true) (hb : vBooks L = true) (h : tb (taL k (sqL k) L) 0 0 = -1) : flAt k L k.hs.length < L.length := by
  by_cases h2 : flAt k L k.hs.length < L.length
  · exact h2
  · exact absurd h (lay_low (pzSq (vCase_bd hv)) (fl_lay hv hb h2)).1
theorem co_us {k : Cs} {L : List Bk} {E : List Int} (h : LayP k L E) : coV k L E true = sumN (fun t => usL (shB L E t)) k.hs.length := by
  rw [co_ok (layC_of h), cost_us, h.n]
theorem co_sq {k : Cs} {L : List Bk} {E : List Int} (h : LayP k L E) : coV k L E false = sumN (fun t => sqL k (shB L E t)) k.hs.length := by
  rw [co_ok (layC_of h), cost_sq, h.n]
theorem taL_ok64 {k : Cs} {L : List Bk} (hv : vCase k = true) (hb : vBooks L = true) : ∀ r, r ∈ taL k (sqL k) L → OkI64 r := fun r hr x hx => by
  have := taN_bd (pzSq (vCase_bd hv)) (FitOk.of hb) k.hs.length r hr x hx
  have := (vCase_bd hv).n.2
  omega
theorem putTB_ok64 {T : List (List Int)} {y : Int} (h : ∀ r, r ∈ T → OkI64 r) (h0 : 0 < T.length) (hy : -9223372036854775808 ≤ y ∧ y ≤ 9223372036854775807) : ∀ r, r ∈ putTB T y → OkI64 r := fun r hr x hx => by
  rcases List.mem_or_eq_of_mem_set hr with hr | rfl
  · exact h r hr x hx
  · rcases List.mem_or_eq_of_mem_set hx with hx | rfl
    · refine h _ ?_ x hx
      rw [List.getD_eq_getElem?_getD, List.getElem?_eq_getElem h0]
      exact List.getElem_mem h0
    · exact hy
theorem putTB_len (T : List (List Int)) (y : Int) : (putTB T y).length = T.length := by unfold putTB; rw [List.length_set]
theorem ct_prf {k : Cs} {L : List Bk} {T : List (List Int)} (h : eCL k L = 0) : ctV k L T = prf k L T := by unfold ctV; rw [decide_eq_true h]; rfl
section
variable {ops : Array Oper} {rest : List Oper} {o : Oper} {a : Act} {Q : Exit → Act → World → Prop}
theorem sh_app {W : World} (base : Nat) (hbase : base ≤ W.heap.size) (hgd : o.guard = none) (s x : Operand) (ho : o.op = .call { callee := .builtin .append, args := #[s, x], argTypes := #[77, 77] }) (v : Value) (xs : List SlH) (b : SlH)
    (hs : a.eval s = v) (hx : a.eval x = .slice (some ⟨W.heap.size, 0, none⟩) 1 1) (HO : kSH.R 56 W base (fun _ => True) v xs) (hl : xs.length ≤ 1000)
    (h : ∀ v1 w1, kSH.R 56 w1 base (fun _ => True) v1 (xs ++ [b]) → W.grownBy w1 v.ownBlock → wpList Try.prog ops Q rest (a.put o.dst v1) w1) :
    wpList Try.prog ops Q (o :: rest) a (W.alloc (.cells #[b.val] 56)) :=
  Kd.R_append kSH (w0 := W) base hgd s x 77 56 (.slice none 0 0) 24 ho Try.underlying77 info_row rfl Nat.one_pos (by decide) v xs b [b.val] (fun _ => True) (fun _ => False) hs hx rfl (fun _ h => h.elim) (fun _ _ => trivial) HO (Below.refl _ _) hbase (by omega)
    (fun v1 w1 h1 h2 h3 _ => h v1 w1 h1 h3)
/-- append([]int64{}, xs...). -/
theorem i64_append_all {w W : World} (hgd : o.guard = none) (s x : Operand) (ho : o.op = .call { callee := .builtin .append, args := #[s, x], argTypes := #[56, 56] }) (A : Option Addr) (m c : Nat) (ys : List Int)
    (hs : a.eval s = .slice (some ⟨W.heap.size, 0, none⟩) 0 0) (hx : a.eval x = .slice A m c) (HL : (Kd.int .i64).C W A m ys) (HB : Below w.heap.size w W) (hl : m ≤ 2097152)
    (h : ∀ v1 w1, (Kd.int .i64).R 2 w1 w.heap.size (fun _ => True) v1 ys → Below w.heap.size w w1 → wpList Try.prog ops Q rest (a.put o.dst v1) w1) :
    wpList Try.prog ops Q (o :: rest) a (W.alloc (.cells #[] 2)) :=
  Kd.R_append_rows (Kd.int .i64) (Rr := (Kd.int .i64).K (W.alloc (.cells #[] 2))) (w0 := w) w.heap.size hgd s x 56 2 (.int .i64 0) 8 ho Try.underlying56 info_i64 rfl (by decide) (by decide) _ [] ys A m c (fun _ => True) (fun _ => False) hs hx (R_zero _ _ _ _ _ HB.size trivial) (Kd.C_below HL (balloc (Below.refl _ _) _)) (fun x cs h => h) (fun _ h => h.elim) (fun _ _ => trivial) (HB.alloc HB.size _) (by simp only [World.size_alloc]; have := HB.size; omega) (by simp only [List.length_nil]; omega)
    (fun v1 w1 h1 h2 _ _ => h v1 w1 h1 h2)
end
theorem putTB_set {T : List (List Int)} {r0 : List Int} {y : Int} (h : T[0]? = some r0) : T.set 0 (r0.set 0 y) = putTB T y := by
  unfold putTB
  rw [List.getD_eq_getElem?_getD, h]
  rfl
theorem putTB_row {T : List (List Int)} {r0 : List Int} {y : Int} (h : T[0]? = some r0) : (putTB T y)[0]? = some (r0.set 0 y) := by
  rw [← putTB_set h, List.getElem?_set_self (List.getElem?_eq_some_iff.1 h).1]
theorem putTB_two {T : List (List Int)} {r0 : List Int} {y z : Int} (h : T[0]? = some r0) : (putTB T y).set 0 ((r0.set 0 y).set 0 z) = putTB T z := by
  rw [← putTB_set h, ← putTB_set h, List.set_set, List.set_set]
/-- A row is added to the table. -/
theorem OwnT.snoc {w0 w w' : World} {v v' : Value} {X : List SlH} {T : List (List Int)} {x : SlH} {r : List Int} (h : OwnT w0 w v X T) (hx : Own (Kd.int .i64) 2 w0 w x.val r) (hap : ∀ (j : Nat) (y : SlH), X[j]? = some y → Apart y.val x.val)
    (hg : w.grownBy w' v.ownBlock) (hv : kSH.R 56 w' w0.heap.size (fun _ => True) v' (X ++ [x])) : OwnT w0 w' v' (X ++ [x]) (T ++ [r]) := by
  have hl := h.len
  have hstep : ∀ {y : SlH} {q : List Int}, Own (Kd.int .i64) 2 w0 w y.val q → Own (Kd.int .i64) 2 w0 w' y.val q := fun {y q} ho => by
    unfold Own at ho ⊢
    exact Kd.R_over ho h.out (fun q hq => by
      have : q = 2 := by simpa [Kd.int, Kd.scalar] using hq
      rw [this]; decide) hg
  have hsp : ∀ (j : Nat) (y : SlH), (X ++ [x])[j]? = some y → X[j]? = some y ∨ (j = X.length ∧ y = x) := fun j y hy => by
    by_cases e : j < X.length
    · rw [List.getElem?_append_left e] at hy; exact .inl hy
    · rw [List.getElem?_append_right (by omega)] at hy
      have hj := (List.getElem?_eq_some_iff.1 hy).1
      simp at hj
      have : j - X.length = 0 := by omega
      rw [this] at hy
      cases hy
      exact .inr ⟨by omega, rfl⟩
  refine ⟨Kd.R_tight kSH_E hv, by rw [List.length_append, List.length_append, hl]; rfl, fun j y q hy hq => ?_, fun i j y z hne hy hz => ?_⟩
  · rcases hsp j y hy with hy | ⟨rfl, rfl⟩
    · rw [List.getElem?_append_left (by rw [← hl]; exact (List.getElem?_eq_some_iff.1 hy).1)] at hq
      exact hstep (h.row j y q hy hq)
    · rw [hl, List.getElem?_append_right (Nat.le_refl _), Nat.sub_self] at hq
      cases hq
      exact hstep hx
  · rcases hsp i y hy with hy2 | ⟨hi, rfl⟩
    · rcases hsp j z hz with hz2 | ⟨hj, rfl⟩
      · exact h.ap i j y z hne hy2 hz2
      · exact hap i y hy2
    · rcases hsp j z hz with hz2 | ⟨hj, rfl⟩
      · exact (hap j z hz2).symm
      · exact absurd (hi.trans hj.symm) hne
end Go.Proofs.Ytdippdkneeocfaa
