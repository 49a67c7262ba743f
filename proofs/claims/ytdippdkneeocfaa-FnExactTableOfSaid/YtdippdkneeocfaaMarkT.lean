/- The laws' marks on tables. -/
import Derived.Test.YtdippdkneeocfaaTabD
import Derived.Test.YtdippdkneeocfaaMarkB
import Derived.StillTailTactics
import Derived.Still
import Derived.Deep.QuietTactic
import Derived.BigQuiet
import Derived.Deep.RegionHeld3
namespace Go.Proofs.Ytdippdkneeocfaa
open Go.RowKit Go.Proofs.YtdippdkneeocfaaW.PrintWords Go.Proofs.YtdippdkneeocfaaW.PrintMore
set_option linter.unusedVariables false
set_option linter.unusedSimpArgs false
set_option maxRecDepth 100000

def mkR (m : Int) (n : Nat) : List Int := (upI m n).map (fun x => x)
theorem mkR_len (m : Int) (n : Nat) : (mkR m n).length = n := by unfold mkR; rw [List.length_map, upI_len]
/-- The first i rows of a table are marked. -/
def mkT (m : Int) (T : List (List Int)) (i : Nat) : List (List Int) := (List.range i).map (fun j => mkR (m + rowsN T j) (T.getD j []).length) ++ T.drop i
theorem mkT_zero (m : Int) (T : List (List Int)) : mkT m T 0 = T := rfl
theorem mkT_len (m : Int) (T : List (List Int)) {i : Nat} (h : i ≤ T.length) : (mkT m T i).length = T.length := by unfold mkT; rw [List.length_append, List.length_map, List.length_range, List.length_drop]; omega
theorem mkT_at {m : Int} {T : List (List Int)} {i : Nat} (h : i < T.length) : (mkT m T i)[i]? = T[i]? := by
  unfold mkT
  rw [List.getElem?_append_right (by rw [List.length_map, List.length_range]; omega), List.length_map, List.length_range, Nat.sub_self, List.getElem?_drop, Nat.add_zero]
theorem mkT_set {m : Int} {T : List (List Int)} {i : Nat} {r : List Int} (h : T[i]? = some r) : (mkT m T i).set i (mkR (m + rowsN T i) r.length) = mkT m T (i + 1) := by
  have hl := (List.getElem?_eq_some_iff.1 h).1
  have hd : T.getD i [] = r := by rw [List.getD_eq_getElem?_getD, h]; rfl
  unfold mkT
  rw [List.set_append_right _ _ (by rw [List.length_map, List.length_range]; omega), List.length_map, List.length_range, Nat.sub_self, List.drop_eq_getElem_cons hl, List.set_cons_zero, List.range_succ, List.map_append]
  simp only [List.map_cons, List.map_nil, hd, List.append_assoc, List.singleton_append]
theorem mkT_row {m : Int} {T : List (List Int)} {n i : Nat} {r q : List Int} (hi : i < n) (h : T[i]? = some r) (hq : (mkT m T n)[i]? = some q) : q = mkR (m + rowsN T i) r.length := by
  have hd : T.getD i [] = r := by rw [List.getD_eq_getElem?_getD, h]; rfl
  unfold mkT at hq
  rw [List.getElem?_append_left (by rw [List.length_map, List.length_range]; omega), List.getElem?_map, List.getElem?_range hi, Option.map_some, hd] at hq
  exact (Option.some.inj hq).symm
set_option maxHeartbeats 2000000 in
theorem markT_c (A : Option Addr) (c : Nat) (X : List SlH) (T : List (List Int)) (m : Int) (w0 w : World) (hO : OwnT w0 w (.slice A T.length c) X T) (hB : w0.heap.size ≤ w.heap.size) (h0 : 0 ≤ m) (h1 : m + rowsN T T.length ≤ 1000000000) (hr : ∀ r, r ∈ T → r.length ≤ 2097152) (hn : T.length ≤ 2097152) :
    Calls Try.prog 89 #[.slice A T.length c, .int .i64 m] w (fun e w' => e = .returned (.int .i64 (m + rowsN T T.length)) ∧ OwnT w0 w' (.slice A T.length c) X (mkT m T T.length) ∧ Below w0.heap.size w w') := by
  have HO := Aside0.mk hO
  have HB := Aside0.mk hB
  have HRR := Aside0.mk hr
  have HM := Aside0.mk h1
  clear hO hB hr h1
  go_enter Try.func89, Try.ntmps89
  go_wp2
  go_loopg [1, 5] T.length (fun gk v1 v5 wr => ∃ i : Nat, i + gk = T.length ∧ v1 = .int .i64 (m + rowsN T i) ∧ v5 = .int .i64 i ∧ Aside0 (OwnT w0 wr (.slice A T.length c) X (mkT m T i)) ∧ Aside0 (Below w0.heap.size w wr))
  case atStart => exact ⟨0, by omega, by show _ = Value.int .i64 (m + ((0 : Nat) : Int)); simp, rfl, ⟨by rw [mkT_zero]; exact HO.out⟩, ⟨Below.refl _ _⟩⟩
  case round =>
    clear HO
    obtain ⟨i, hk, rfl, rfl, HO, HBr⟩ := hrel
    have HK := Aside0.mk hk
    by_cases hlt : i < T.length
    · have hml := mkT_len m T (Nat.le_of_lt hlt)
      obtain ⟨ad, x, r, rfl, hX, hbr, hxr, hxn, hxc, HRow⟩ := HO.out.at i (by omega)
      obtain ⟨A', n', c'⟩ := x
      simp only [SlH.val] at hxr hxn hxc HRow
      subst hxn
      have HX := Aside0.mk hX
      have hTr : T[i]? = some r := by rw [← mkT_at (m := m) hlt]; exact hbr.out
      have HT := Aside0.mk hTr
      have hmono := rowsN_mono T (i + 1) (T.length - (i + 1))
      rw [show i + 1 + (T.length - (i + 1)) = T.length by omega, rowsN_succ hTr] at hmono
      have hM := HM.out
      have HS := Aside0.mk (rowsN_succ hTr)
      have HMK := Aside0.mk (markInt64S_c A' c' r (m + rowsN T i) w0 wr HRow.out (by omega) (by omega) (HRR.out r (mem_of hTr)))
      have HST := Aside0.mk (mkT_set (m := m) hTr)
      have i0 : (0 : Int) ≤ (i : Int) := by omega
      have i1 : (i : Int) < (T.length : Int) := by omega
      clear hk hml hTr hX hmono hM
      go_wp2_with fail
      refine HMK.out.mono ?_; rintro _ w1 ⟨rfl, ho1, hg1⟩
      have HB1 := Aside0.mk (pw_below_grown HBr.out _ (Nat.le_trans HB.out HBr.out.size) hg1 (fun k hk => Kd.R_base HRow.out k hk))
      have HO1 := Aside0.mk (show OwnT w0 w1 (.slice (some ad) T.length c) X (mkT m T (i + 1)) by rw [← HST.out]; exact HO.out.upd HX.out hbr.out ho1 hg1)
      clear ho1 hg1
      go_wp2
      go_roundg (gk - 1)
      case measure => have := HK.out; omega
      case rel => exact ⟨i + 1, by have := HK.out; omega, by rw [HS.out]; congr 1; omega, by go_num, HO1, HB1⟩
    · have hil : i = T.length := by omega
      subst hil
      clear hk
      go_wp2
      go_ret
      exact ⟨rfl, HO.out, HBr.out⟩
set_option maxHeartbeats 2000000 in
theorem heldT_c (A : Option Addr) (c : Nat) (T : List (List Int)) (m : Int) (w : World) (hL : kT.C w A T.length (mkT m T T.length)) (h0 : 0 ≤ m) (h1 : m + rowsN T T.length ≤ 1000000000) (hr : ∀ r, r ∈ T → r.length ≤ 2097152) (hn : T.length ≤ 2097152) :
    Calls Try.prog 90 #[.slice A T.length c, .int .i64 m] w (RetS w (.int .i64 (m + rowsN T T.length))) := by
  have HL := Aside0.mk hL
  have HRR := Aside0.mk hr
  have HM := Aside0.mk h1
  clear hL hr h1
  go_enter Try.func90, Try.ntmps90
  go_wp2
  go_loopg [1, 5] T.length (fun gk v1 v5 wr => ∃ i : Nat, i + gk = T.length ∧ v1 = .int .i64 (m + rowsN T i) ∧ v5 = .int .i64 i ∧ w = wr)
  case atStart => exact ⟨0, by omega, by show _ = Value.int .i64 (m + ((0 : Nat) : Int)); simp, rfl, rfl⟩
  case round =>
    obtain ⟨i, hk, rfl, rfl, rfl⟩ := hrel
    have HK := Aside0.mk hk
    by_cases hlt : i < T.length
    · obtain ⟨ad, q, A', c', rfl, hbq, hxq, hxc, HRow⟩ := at_row HL.out i hlt
      obtain ⟨r, hTr⟩ : ∃ r, T[i]? = some r := ⟨_, List.getElem?_eq_getElem hlt⟩
      have hq := mkT_row hlt hTr hbq.out
      have hql : q.length = r.length := by rw [hq, mkR_len]
      rw [hql] at hxq hxc HRow
      rw [hq] at HRow
      have hmono := rowsN_mono T (i + 1) (T.length - (i + 1))
      rw [show i + 1 + (T.length - (i + 1)) = T.length by omega, rowsN_succ hTr] at hmono
      have hM := HM.out
      have HS := Aside0.mk (rowsN_succ hTr)
      have HH := Aside0.mk (heldInt64S_c A' c' r.length (m + rowsN T i) w HRow.out (by omega) (by omega) (HRR.out r (mem_of hTr)))
      have i0 : (0 : Int) ≤ (i : Int) := by omega
      have i1 : (i : Int) < (T.length : Int) := by omega
      have i2 : ¬ (m + (rowsN T i : Int) + (r.length : Int) < 0) := by omega
      clear hk hTr hmono hM hq hql hbq HRow
      go_wp2_with fail
      refine HH.out.mono ?_; rintro _ w1 ⟨rfl, rfl⟩
      go_wp2
      go_roundg (gk - 1)
      case measure => have := HK.out; omega
      case rel => exact ⟨i + 1, by have := HK.out; omega, by rw [HS.out]; congr 1; omega, by go_num, rfl⟩
    · have hil : i = T.length := by omega
      subst hil
      clear hk
      go_wp2
      go_ret
      exact ⟨rfl, rfl⟩
theorem OwnT.readsT {w0 w : World} {A : Option Addr} {c : Nat} {X : List SlH} {T T' : List (List Int)} (h : OwnT w0 w (.slice A T'.length c) X T) (hl : T.length = T'.length) : kT.C w A T'.length T := by
  obtain ⟨_, _, h3⟩ := h.reads
  rw [hl] at h3
  exact h3
end Go.Proofs.Ytdippdkneeocfaa
