/- Tables of whole numbers: the laws' sizes, copies and comparisons. -/
import Derived.Test.YtdippdkneeocfaaScal
import Derived.Test.YtdippdkneeocfaaOver
import Derived.StillTailTactics
import Derived.Still
import Derived.Deep.QuietTactic
import Derived.BigQuiet
namespace Go.Proofs.Ytdippdkneeocfaa
open Go.RowKit Go.Proofs.YtdippdkneeocfaaW.PrintWords Go.Proofs.YtdippdkneeocfaaW.PrintMore
set_option linter.unusedVariables false
set_option linter.unusedSimpArgs false
set_option maxRecDepth 100000

def kT : Kd (List Int) := Kd.slice 2 (Kd.int .i64)
theorem info_row : (Try.prog.info? 56).map (fun i => (i.zero, i.size, i.bytes)) = some (some (.slice none 0 0), 1, 24) := by kernel_rfl
theorem at_row {w : World} {A : Option Addr} {T : List (List Int)} {n : Nat} (h : kT.C w A n T) (i : Nat) (hi : i < n) :
    ∃ ad r A' c', A = some ad ∧ Aside0 (T[i]? = some r) ∧ w.cell? (ad.add i) = some (.slice A' r.length c') ∧ r.length ≤ c' ∧ Aside0 ((Kd.int .i64).C w A' r.length r) := by
  have hl : i < T.length := by have := Kd.C_len h; omega
  obtain ⟨ad, c, e, hc, hK, hcc⟩ := Kd.C_get h T[i] i (by omega) (by omega)
  rw [Int.toNat_natCast] at hK hcc
  have hx : T.getD i T[i] = T[i] := by simp [List.getD_eq_getElem?_getD, List.getElem?_eq_getElem hl]
  rw [hx] at hK
  obtain ⟨A', c', rfl, h1, h2⟩ := hK
  have := hcc 0 _ rfl
  refine ⟨ad, T[i], A', c', e, ⟨List.getElem?_eq_getElem hl⟩, ?_, h1, ⟨h2⟩⟩
  simpa [kT, Kd.slice] using this
/-- How much the first n rows hold. -/
def rowsN (T : List (List Int)) : Nat → Nat
  | 0 => 0
  | n + 1 => rowsN T n + (T.getD n []).length
theorem rowsN_succ {T : List (List Int)} {n : Nat} {r : List Int} (h : T[n]? = some r) : rowsN T (n + 1) = rowsN T n + r.length := by
  rw [rowsN, List.getD_eq_getElem?_getD, h]; rfl
theorem rowsN_mono (T : List (List Int)) (n d : Nat) : rowsN T n ≤ rowsN T (n + d) := by
  induction d with
  | zero => exact Nat.le_refl _
  | succ d ih => rw [show n + (d + 1) = n + d + 1 by omega, rowsN]; omega
def tSize (T : List (List Int)) : Nat := T.length + rowsN T T.length
theorem szI64_lt (A : Option Addr) (c : Nat) (n : Nat) (left : Int) (w : World) (hn : n ≤ 9223372036854775807) (h0 : 0 ≤ left) (h1 : left ≤ 1048576) (h : left < (n : Int)) :
    Calls Try.prog 144 #[.slice A n c, .int .i64 left] w (RetS w (.int .i64 (-1))) := by
  go_enter Try.func144, Try.ntmps144
  go_wp2
  all_goals (go_ret; exact ⟨rfl, rfl⟩)
theorem szI64_ge (A : Option Addr) (c : Nat) (n : Nat) (left : Int) (w : World) (hn : n ≤ 9223372036854775807) (h0 : 0 ≤ left) (h1 : left ≤ 1048576) (h : ¬ left < (n : Int)) :
    Calls Try.prog 144 #[.slice A n c, .int .i64 left] w (RetS w (.int .i64 (left - n))) := by
  go_enter Try.func144, Try.ntmps144
  go_wp2
  all_goals (go_ret; exact ⟨rfl, rfl⟩)
set_option maxHeartbeats 2000000 in
theorem szT_c (A : Option Addr) (c : Nat) (T : List (List Int)) (left : Int) (w : World) (h0 : 0 ≤ left) (h1 : left ≤ 1048576) (hT : kT.C w A T.length T) :
    Calls Try.prog 74 #[.slice A T.length c, .int .i64 left] w (RetS w (.int .i64 (if left < (tSize T : Int) then -1 else left - (tSize T : Int)))) := by
  have hm := Kd.C_max hT
  have HT := Aside0.mk hT
  clear hT
  by_cases hlt : left < (T.length : Int)
  · have HR := Aside0.mk (show (if left < (tSize T : Int) then (-1 : Int) else left - (tSize T : Int)) = -1 from if_pos (by unfold tSize; omega))
    rw [HR.out]
    go_enter Try.func74, Try.ntmps74
    go_wp2
    all_goals (go_ret; exact ⟨rfl, rfl⟩)
  · have hle : (T.length : Int) ≤ left := by omega
    clear hlt
    generalize hR : (if left < (tSize T : Int) then (-1 : Int) else left - (tSize T : Int)) = R
    have HR := Aside0.mk hR
    clear hR
    go_enter Try.func74, Try.ntmps74
    go_wp2
    go_loopg [1, 5] T.length (fun gk v1 v5 wr => ∃ k : Nat, ∃ q : Int, k + gk = T.length ∧ v5 = .int .i64 k ∧ v1 = .int .i64 q ∧ Aside0 (q = left - T.length - rowsN T k ∧ 0 ≤ q) ∧ w = wr)
    case atStart => exact ⟨0, left - T.length, by omega, rfl, rfl, ⟨by show _ = _ - _ - ((0 : Nat) : Int); omega, by omega⟩, rfl⟩
    case round =>
      obtain ⟨k, q, hk, rfl, rfl, hp, rfl⟩ := hrel
      have HK := Aside0.mk hk
      have q0 := hp.out.2
      have q1 : q ≤ 1048576 := by have := hp.out.1; omega
      by_cases hlt : k < T.length
      · obtain ⟨ad, r, A', c', rfl, hbr, hxr, hc', hCr⟩ := at_row HT.out k hlt
        have HS := Aside0.mk (rowsN_succ hbr.out)
        have hrm := Kd.C_max hCr.out
        have i0 : (0 : Int) ≤ (k : Int) := by omega
        have i1 : (k : Int) < (T.length : Int) := by omega
        clear hk
        by_cases hq : q < (r.length : Int)
        · have HQ := Aside0.mk (szI64_lt A' c' r.length q w hrm q0 q1 hq)
          have HE := Aside0.mk (show R = -1 by
            rw [← HR.out, if_pos]
            have h2 := rowsN_mono T (k + 1) (T.length - (k + 1))
            rw [show k + 1 + (T.length - (k + 1)) = T.length by omega, HS.out] at h2
            have := hp.out.1
            unfold tSize
            omega)
          clear hCr
          go_wp2_with fail
          refine HQ.out.mono ?_; rintro _ w1 ⟨rfl, rfl⟩
          go_wp2
          go_ret
          exact ⟨ret_int HE.out.symm, rfl⟩
        · have HQ := Aside0.mk (szI64_ge A' c' r.length q w hrm q0 q1 hq)
          have hq2 : (r.length : Int) ≤ q := by omega
          clear hCr
          go_wp2_with fail
          refine HQ.out.mono ?_; rintro _ w1 ⟨rfl, rfl⟩
          go_wp2
          go_roundg (gk - 1)
          case measure => have := HK.out; omega
          case rel => exact ⟨k + 1, q - r.length, by have := HK.out; omega, by go_num, by go_num, ⟨by rw [HS.out]; have := hp.out.1; omega, by omega⟩, rfl⟩
      · have hkl : k = T.length := by omega
        have HE := Aside0.mk (show R = q by
          rw [← HR.out, if_neg]
          · have := hp.out.1
            unfold tSize
            rw [hkl] at this
            omega
          · have := hp.out
            rw [hkl] at this
            unfold tSize
            omega)
        clear hk hkl
        go_wp2
        go_ret
        exact ⟨ret_int HE.out.symm, rfl⟩
def NewT (w : World) (T : List (List Int)) (v : Value) (w' : World) : Prop := ∃ A c, v = .slice A T.length c ∧ T.length ≤ c ∧ kT.C w' A T.length T
section
variable {ops : Array Oper} {rest : List Oper} {o : Oper} {a : Act} {Q : Exit → Act → World → Prop}
theorem t_make {w W : World} (hgd : o.guard = none) {N : Tmp} (hd : o.dst = some N) (x y : Operand) (ho : o.op = .makeSlice 77 x y) (n : Nat) (hx : a.eval x = .int .i64 n) (hy : a.eval y = .int .i64 n)
    (hn : n ≤ 2097152) (HB : Below w.heap.size w W)
    (h : ∀ v1 w1, kT.R 56 w1 w.heap.size (fun _ => True) v1 (List.replicate n []) → Below w.heap.size w w1 → wpList Try.prog ops Q rest (a.put o.dst v1) w1) : wpList Try.prog ops Q (o :: rest) a W := by
  refine Kd.R_make kT (w0 := w) w.heap.size 56 hgd hd 77 x y ho (n : Int) hx hy Try.underlying77 (.slice none 0 0) 24 info_row rfl Nat.one_pos (by decide) [] (ok := fun _ => True) (okp := fun _ => True) ⟨_, rfl, Kd.R_nil _ _ _ _ _⟩ (fun _ h => h) trivial (by omega) (by simp only [Int.toNat_natCast]; omega) HB HB.size ?_
  intro v1 w1 h1 h2 h3 h4
  rw [Int.toNat_natCast] at h1
  exact h v1 w1 h1 h2
theorem t_store {w W : World} (base : Nat) (hN : o.dst = none) (hgd : o.guard = none) (p x : Operand) (ho : o.op = .store 56 p x) {e : TypeId} {g n cap o' : Nat} (i : Nat) (xs : List (List Int)) (A' : Option Addr) (m c' : Nat) (r : List Int)
    (haddr : a.eval p = .pointer (some ⟨g, o', none⟩)) (hoff : o' = i) (hx : a.eval x = .slice A' m c') (hr : (Kd.int .i64).R 2 W base (fun k => k ≠ g) (.slice A' m c') r)
    (HO : kT.R e W base (fun _ => True) (.slice (some ⟨g, 0, none⟩) n cap) xs) (hi : i < n) (HB : Below base w W)
    (h : ∀ w1, kT.R e w1 base (fun _ => True) (.slice (some ⟨g, 0, none⟩) n cap) (xs.set i r) → Below base w w1 → wpList Try.prog ops Q rest a w1) : wpList Try.prog ops Q (o :: rest) a W := by
  obtain ⟨c, hcl, hM, hcc, _⟩ := Kd.R_elem HO [] (i : Int) (by omega) (by omega)
  have hc1 : c.length = 1 := hcl
  refine Kd.R_store kT (w0 := w) base hN hgd 56 p x ho e (i : Int) 0 xs r (.slice A' m c') [.slice A' m c'] c (fun _ => True) (fun k => k ≠ g) haddr (by simp only [Int.toNat_natCast]; show o' = i * 1 + 0; omega) hx rfl (by show _ = some 1; kernel_rfl) (fun q hq => by rw [List.mem_singleton.1 hq]; rfl) HO (by omega) (by omega) hcl (fun j u hu => by have := hcc j u hu; simpa using this) (Nat.le_refl 1) ?_ (fun k hk => ⟨trivial, hk⟩) HB ?_
  · rw [List.drop_of_length_le (by show c.length ≤ 0 + 1; omega)]
    exact ⟨_, rfl, hr⟩
  · intro w1 h1 h2 h3
    rw [Int.toNat_natCast] at h1
    exact h w1 h1 h2
end
set_option maxHeartbeats 2000000 in
theorem toInt64SS_c (A : Option Addr) (c : Nat) (T : List (List Int)) (w : World) (hT : kT.C w A T.length T) (hn : T.length ≤ 2097152) (hr : ∀ r, r ∈ T → r.length ≤ 2097152) :
    Calls Try.prog 76 #[.slice A T.length c] w (RetQ w (NewT w T)) := by
  have hm := Kd.C_max hT
  have HT := Aside0.mk hT
  have HRR := Aside0.mk hr
  clear hT hr
  go_enter Try.func76, Try.ntmps76
  go_wp2_with (refine t_make (w := w) rfl (N := 7) rfl (.tmp 6) (.tmp 6) rfl T.length rfl rfl hn (Below.refl _ _) ?_; intro v1 w1 hR hB; have HR := Aside0.mk hR; have HB := Aside0.mk hB; clear hR hB)
  go_loopg [4] T.length (fun gk v wr => ∃ k : Nat, k + gk = T.length ∧ v = .int .i64 k ∧ Aside0 (kT.R 56 wr w.heap.size (fun _ => True) v1 (T.take k ++ List.replicate (T.length - k) [])) ∧ Aside0 (Below w.heap.size w wr))
  case atStart => exact ⟨0, by omega, rfl, ⟨by simpa using HR.out⟩, HB⟩
  case round =>
    clear HR HB
    obtain ⟨k, hk, rfl, HR, HB⟩ := hrel
    have HK := Aside0.mk hk
    by_cases hlt : k < T.length
    · obtain ⟨ad, r, A', c', rfl, hbr, hxr, hc', hCr⟩ := at_row (Kd.C_below HT.out HB.out) k hlt
      obtain ⟨g, cap, e1, gb, gl, cl, HG⟩ := Kd.R_form HR.out (by simp; omega)
      have hlen : (T.take k ++ List.replicate (T.length - k) ([] : List Int)).length = T.length := by simp; omega
      rw [hlen] at e1
      subst e1
      have HCP := Aside0.mk (fun W h => toInt64S_c A' c' r W h (HRR.out r (mem_of hbr.out)))
      have i0 : (0 : Int) ≤ (k : Int) := by omega
      have i1 : (k : Int) < (T.length : Int) := by omega
      clear hk hlen HG
      go_wp2_with fail
      refine (HCP.out _ hCr.out).mono ?_; rintro _ w2 ⟨v, rfl, hb2, hv2⟩
      have HR2 := Aside0.mk (Kd.R_below HR.out hb2)
      have HB2 := Aside0.mk (bstep HB.out hb2)
      obtain ⟨A2, c2, rfl, hc2, _⟩ := hv2.open
      have HV2 := Aside0.mk (show (Kd.int .i64).R 2 w2 w.heap.size (fun k => k ≠ g) (.slice A2 r.length c2) r from Kd.R_lower (Kd.R_mono (Kd.R_bound hv2) (fun k hk => by have := hk.2.1; omega)) HB.out.size)
      clear hb2 hv2 hCr
      go_wp2_with (refine t_store (w := w) w.heap.size rfl rfl (.tmp 21) (.tmp 20) rfl k _ A2 r.length c2 r rfl (by first | rfl | omega | simp) rfl HV2.out HR2.out hlt HB2.out ?_; intro w3 hR3 hB3; have HR3 := Aside0.mk hR3; have HB3 := Aside0.mk hB3; clear hR3 hB3)
      go_roundg (gk - 1)
      case measure => have := HK.out; omega
      case rel => exact ⟨k + 1, by have := HK.out; omega, by go_num, ⟨by have := HR3.out; rwa [set_next hbr.out] at this⟩, HB3⟩
    · have hkl : k = T.length := by omega
      have HR1 := Aside0.mk (show kT.R 56 wr w.heap.size (fun _ => True) v1 T by have h1 := HR.out; rw [hkl] at h1; simpa using h1)
      clear hk hkl
      go_wp2
      go_ret
      exact ⟨v1, rfl, HB.out, Kd.R_reads HR1.out⟩
set_option maxHeartbeats 2000000 in
theorem eqInt64SS_c (A A' : Option Addr) (c c' : Nat) (T T' : List (List Int)) (w : World) (hT : kT.C w A T.length T) (hT' : kT.C w A' T'.length T') :
    Calls Try.prog 78 #[.slice A T.length c, .slice A' T'.length c'] w (Ret w (.bool (decide (T = T')))) := by
  have hm := Kd.C_max hT
  have hm' := Kd.C_max hT'
  have HL := Aside0.mk hT
  have HL' := Aside0.mk hT'
  clear hT hT'
  by_cases hll : T.length = T'.length
  · have HLL := Aside0.mk hll
    have hb0 : ((T.length : Int) != (T'.length : Int)) = false := by simp [hll]
    have hb0' : (T.length != T'.length) = false := by simp [hll]
    clear hll
    go_enter Try.func78, Try.ntmps78
    go_wp2
    go_loopg [5] T.length (fun gk v wr => ∃ k : Nat, k + gk = T.length ∧ v = .int .i64 k ∧ Aside0 (T.take k = T'.take k) ∧ Aside0 (Below w.heap.size w wr))
    case atStart => exact ⟨0, by omega, rfl, ⟨by simp⟩, ⟨Below.refl _ _⟩⟩
    case round =>
      clear hb0 hb0'
      obtain ⟨k, hk, rfl, hp, hb⟩ := hrel
      have HK := Aside0.mk hk
      by_cases hlt : k < T.length
      · have hlt' : k < T'.length := by have := HLL.out; omega
        obtain ⟨ad, r, B, d, rfl, hbr, hxr, hc, hCr⟩ := at_row (Kd.C_below HL.out hb.out) k hlt
        obtain ⟨ad', r', B', d', rfl, hbr', hxr', hc', hCr'⟩ := at_row (Kd.C_below HL'.out hb.out) k hlt'
        have HEQ := Aside0.mk (fun (W : World) h h' => eqInt64S_c B B' d d' r r' W h h')
        have hxO := fun p : Over wr => Over.cell hxr p
        have hxO' := fun p : Over wr => Over.cell hxr' p
        have i0 : (0 : Int) ≤ (k : Int) := by omega
        have i1 : (k : Int) < (T.length : Int) := by omega
        have i2 : (k : Int) < (T'.length : Int) := by omega
        clear hk
        by_cases hrr : r = r'
        · have HN := Aside0.mk (show T.take (k + 1) = T'.take (k + 1) by rw [take_snoc hbr.out, take_snoc hbr'.out, hp.out, hrr])
          simp only [decide_eq_true hrr] at HEQ
          clear hrr
          go_wp2_with fail
          refine region_over (by kernel_rfl) (by kernel_rfl) ?_
          repeat (go_big_quiet_step (first | (go_at_call 52; exact Calls.over_of (HEQ.out _ (Kd.C_below hCr.out (Over.h _)) (Kd.C_below hCr'.out (Over.h _))))))
          refine wpQuiet_nil ?_
          intro wq1 hw'
          have hq_wq1 := over_out hw'
          clear hw'
          have HB1 := Aside0.mk (bstep hb.out hq_wq1)
          clear hq_wq1 hCr hCr' hxO hxO'
          go_wp2
          go_roundg (gk - 1)
          case measure => have := HK.out; omega
          case rel => exact ⟨k + 1, by have := HK.out; omega, by go_num, HN, HB1⟩
        · have HN := Aside0.mk (show T ≠ T' from fun h => hrr (by have h1 := hbr.out; rw [h, hbr'.out] at h1; exact (Option.some.inj h1).symm))
          simp only [decide_eq_false hrr] at HEQ
          clear hrr
          go_wp2_with fail
          refine region_over (by kernel_rfl) (by kernel_rfl) ?_
          repeat (go_big_quiet_step (first | (go_at_call 52; exact Calls.over_of (HEQ.out _ (Kd.C_below hCr.out (Over.h _)) (Kd.C_below hCr'.out (Over.h _))))))
          refine wpQuiet_nil ?_
          intro wq1 hw'
          have hq_wq1 := over_out hw'
          clear hw'
          have HB1 := Aside0.mk (bstep hb.out hq_wq1)
          clear hq_wq1 hCr hCr' hxO hxO'
          go_wp2
          go_ret
          exact ⟨ret_bool (decide_eq_false HN.out).symm, HB1.out⟩
      · have HE := Aside0.mk (show T = T' by have h1 := hp.out; have h2 := HLL.out; rwa [List.take_of_length_le (by omega), List.take_of_length_le (by omega)] at h1)
        clear hk
        go_wp2
        go_ret
        exact ⟨ret_bool (decide_eq_true HE.out).symm, hb.out⟩
  · have hb0 : ((T.length : Int) != (T'.length : Int)) = true := by simp; omega
    have hb0' : (T.length != T'.length) = true := by simpa using hll
    have HN := Aside0.mk (show T ≠ T' from fun h => hll (by rw [h]))
    clear hll
    go_enter Try.func78, Try.ntmps78
    go_wp2
    all_goals (go_ret; exact ⟨ret_bool (decide_eq_false HN.out).symm, Below.refl _ _⟩)
end Go.Proofs.Ytdippdkneeocfaa
