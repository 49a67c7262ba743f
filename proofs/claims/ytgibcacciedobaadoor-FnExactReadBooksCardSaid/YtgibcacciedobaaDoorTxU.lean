/- Numbers read from texts, texts parted: the reference's. -/
import Derived.Test.YtgibcacciedobaaDoorTxV
import Derived.StillTailTactics
import Derived.Still
import Derived.Deep.QuietTactic
import Derived.BigQuiet
namespace Go.Proofs.YtgibcacciedobaaDoor
open Go.RowKit Go.Proofs.YtgibcacciedobaaDoorW.PrintWords Go.Proofs.YtgibcacciedobaaDoorW.PrintMore
set_option linter.unusedVariables false
set_option linter.unusedSimpArgs false
set_option maxRecDepth 100000

open Go.Lib (decFrom digitVal)
def nmV (l : Bs) : Int := ((numL l).getD 0 : Nat)
def nmK (l : Bs) : Bool := (numL l).isSome
theorem bS_at {l : Bs} {k : Nat} {x : UInt8} (h : l[k]? = some x) : ∀ hk : k < (bS l).size, (((bS l)[k]'hk).toNat : Int) = (x.toNat : Int) := by
  intro hk
  have hl : k < l.length := (List.getElem?_eq_some_iff.1 h).1
  have e := (List.getElem?_eq_some_iff.1 h).2
  have : (bS l)[k]'hk = l[k]'hl := by
    simp [bS, ByteArray.getElem_eq_getElem_data]
  rw [this, e]
theorem num_none {l : Bs} (h : numL l = none) : nmV l = 0 ∧ nmK l = false := by unfold nmV nmK; rw [h]; exact ⟨rfl, rfl⟩
theorem num_long {l : Bs} (h : 9 < l.length) : numL l = none := by unfold numL; rw [if_pos (.inr (.inl h))]
theorem num_zero {r : Bs} (h : r ≠ []) : numL (48 :: r) = none := by
  unfold numL
  rw [if_pos]
  have := List.length_pos_iff.2 h
  exact .inr (.inr ⟨rfl, by simp only [List.length_cons]; omega⟩)
theorem num_go {l : Bs} (h0 : l ≠ []) (h1 : ¬ 9 < l.length) (h2 : ¬ (l.head? = some 48 ∧ 1 < l.length)) : numL l = decFrom 0 l := by
  unfold numL
  rw [if_neg]
  rintro (h | h | h)
  · exact h0 h
  · exact h1 h
  · exact h2 h
theorem decFrom_bad {l : Bs} {k acc : Nat} {x : UInt8} (h : l[k]? = some x) (hx : x.toNat < 48 ∨ 57 < x.toNat) : decFrom acc l = none := by
  cases hd : decFrom acc l with
  | none => rfl
  | some n =>
    exfalso
    revert acc n k
    induction l with
    | nil => intro k acc h n hd; simp at h
    | cons y r ih =>
      intro k acc h n hd
      rw [decFrom] at hd
      cases hy : digitVal y with
      | none => rw [hy] at hd; cases hd
      | some d =>
        rw [hy] at hd
        cases k with
        | zero =>
          simp only [List.getElem?_cons_zero, Option.some.injEq] at h
          subst h
          have := Go.Lib.digitVal_eq hy
          omega
        | succ k => exact ih (by simpa using h) n hd
theorem decFrom_lt9 {l : Bs} {n : Nat} (h : decFrom 0 l = some n) (hl : l.length ≤ 9) : n < 1000000000 := by
  have h1 := Go.Lib.decFrom_lt l 0 n h
  have h2 : 10 ^ l.length ≤ 10 ^ 9 := Nat.pow_le_pow_right (by decide) hl
  omega
theorem nm_some {l : Bs} {n : Nat} (h : numL l = some n) : nmV l = n ∧ nmK l = true := by unfold nmV nmK; rw [h]; exact ⟨rfl, rfl⟩
set_option maxHeartbeats 4000000 in
theorem l01Number_c (l : Bs) (hl : l.length ≤ 1048576) (w : World) : Calls Tryd.prog 53 #[.string (bS l)] w (Ret w (.tuple #[.int .i64 (nmV l), .bool (nmK l)])) := by
  have hsz : (bS l).size = l.length := bS_size l
  by_cases h0 : l = []
  · subst h0
    have HN := Aside0.mk (num_none (l := []) (by unfold numL; rw [if_pos (.inl rfl)]))
    have hq : (bS []).toList = [] := bS_list []
    go_enter Tryd.func53, Tryd.ntmps53
    go_wp2
    go_ret2
    exact ⟨ret_rd HN.out.1.symm HN.out.2.symm, Below.refl _ _⟩
  · have hq : ¬ (bS l).toList = [] := by rw [bS_list]; exact h0
    by_cases h9 : 9 < l.length
    · have HN := Aside0.mk (num_none (num_long h9))
      have h9' : (9 : Int) < ((bS l).size : Int) := by omega
      clear h0 h9 hsz
      go_enter Tryd.func53, Tryd.ntmps53
      go_wp2
      go_ret2
      exact ⟨ret_rd HN.out.1.symm HN.out.2.symm, Below.refl _ _⟩
    · have d9 : decide ((9 : Int) < (l.length : Int)) = false := decide_eq_false (by omega)
      have hE : (bS l).toList.isEmpty = false := by rw [bS_list]; cases l with | nil => exact absurd rfl h0 | cons y r => rfl
      obtain ⟨y, r, rfl⟩ : ∃ y r, l = y :: r := by cases l with | nil => exact absurd rfl h0 | cons y r => exact ⟨y, r, rfl⟩
      have hx0 := bS_at (l := y :: r) (k := 0) rfl
      have hp0 : (0 : Int) < ((y :: r).length : Int) := by rw [List.length_cons]; omega
      have hp1 : 0 < (y :: r).length := by rw [List.length_cons]; omega
      by_cases hy : y = 48
      · subst hy
        have e48 : (((48 : UInt8).toNat : Int) == 48) = true := rfl
        by_cases hr : r = []
        · subst hr
          have hl1 : decide ((1 : Int) < (([48] : Bs).length : Int)) = false := rfl
          have hgo := Aside0.mk (num_go h0 h9 (by rintro ⟨_, h⟩; exact absurd h (by decide)))
          generalize hlE : ([48] : Bs) = l at *
          clear hlE
          go_enter Tryd.func53, Tryd.ntmps53
          go_wp2_with fail
          clear hx0
          go_loopg [4, 5] l.length (fun gk v4 v5 wr => ∃ k m : Nat, k + gk = l.length ∧ v5 = .int .i64 k ∧ v4 = .int .i64 m ∧ Aside0 (decFrom 0 (l.take k) = some m) ∧ Aside0 (Below w.heap.size w wr))
          case atStart => exact ⟨0, 0, by omega, rfl, rfl, ⟨rfl⟩, ⟨Below.refl _ _⟩⟩
          case round =>
            obtain ⟨k, m, hk, rfl, rfl, hd, hb⟩ := hrel
            have HK := Aside0.mk hk
            have hm : m < 1000000000 := decFrom_lt9 hd.out (by rw [List.length_take]; omega)
            by_cases hlt : k < l.length
            · obtain ⟨x, hx⟩ : ∃ x, l[k]? = some x := ⟨_, List.getElem?_eq_getElem hlt⟩
              have hat := bS_at hx
              have HX := Aside0.mk hx
              have i0 : (0 : Int) ≤ (k : Int) := by omega
              have i1 : (k : Int) < (l.length : Int) := by omega
              have i2 : k < l.length := hlt
              have hx255 : x.toNat < 256 := x.toNat_lt
              obtain ⟨q, hq9⟩ : ∃ q : Nat, x.toNat = q := ⟨_, rfl⟩
              rw [hq9] at hat hx255
              have HQ9 := Aside0.mk hq9
              clear hk hx hq9
              by_cases hlo : q < 48
              · have HB := Aside0.mk (num_none (hgo.out.trans (decFrom_bad HX.out (by rw [HQ9.out]; omega))))
                have hlo' : (q : Int) < 48 := by omega
                have hd1 : decide ((q : Int) < 48) = true := decide_eq_true hlo'
                have hd2 : decide (q < 48) = true := decide_eq_true hlo
                go_wp2
                go_ret2
                exact ⟨ret_rd HB.out.1.symm HB.out.2.symm, hb.out⟩
              · by_cases hhi : 57 < q
                · have HB := Aside0.mk (num_none (hgo.out.trans (decFrom_bad HX.out (by rw [HQ9.out]; omega))))
                  have hlo' : ¬ (q : Int) < 48 := by omega
                  have hhi' : (57 : Int) < (q : Int) := by omega
                  have hd1 : decide ((q : Int) < 48) = false := decide_eq_false hlo'
                  have hd2 : decide (q < 48) = false := decide_eq_false hlo
                  have hd3 : decide ((57 : Int) < (q : Int)) = true := decide_eq_true hhi'
                  have hd4 : decide (57 < q) = true := decide_eq_true hhi
                  go_wp2
                  go_ret2
                  exact ⟨ret_rd HB.out.1.symm HB.out.2.symm, hb.out⟩
                · have hlo' : ¬ (q : Int) < 48 := by omega
                  have hhi' : ¬ (57 : Int) < (q : Int) := by omega
                  have hd1 : decide ((q : Int) < 48) = false := decide_eq_false hlo'
                  have hd2 : decide (q < 48) = false := decide_eq_false hlo
                  have hd3 : decide ((57 : Int) < (q : Int)) = false := decide_eq_false hhi'
                  have hd4 : decide (57 < q) = false := decide_eq_false hhi
                  have hw1 : IntKind.i64.wrap (10 * (m : Int)) = 10 * (m : Int) := by rw [IntKind.wrap_i64]; omega
                  have hw2 : IntKind.u8.wrap ((q : Int) - 48) = (q : Int) - 48 := by simp only [IntKind.wrap, IntKind.bits, IntKind.signed, Bool.false_and, Bool.false_eq_true, if_false]; omega
                  have hw3 : IntKind.i64.wrap ((q : Int) - 48) = (q : Int) - 48 := by rw [IntKind.wrap_i64]; omega
                  have hw4 : IntKind.i64.wrap (10 * (m : Int) + ((q : Int) - 48)) = ((m * 10 + (q - 48) : Nat) : Int) := by rw [IntKind.wrap_i64]; omega
                  have HD2 := Aside0.mk (Go.Lib.decFrom_take l k 0 m x (q - 48) hd.out HX.out (by unfold digitVal; rw [HQ9.out, if_pos (by omega)]))
                  clear hd hlo hhi
                  go_wp2_with fail
                  go_roundg (gk - 1)
                  case measure => have := HK.out; omega
                  case rel => exact ⟨k + 1, m * 10 + (q - 48), by have := HK.out; omega, by go_num, rfl, HD2, hb⟩
            · have HE := Aside0.mk (nm_some (hgo.out.trans (by have := hd.out; rw [List.take_of_length_le (by omega)] at this; exact this)))
              have i1 : ¬ (k : Int) < (l.length : Int) := by omega
              clear hk hd
              go_wp2
              go_ret2
              exact ⟨ret_rd HE.out.1.symm HE.out.2.symm, hb.out⟩
        · have HN := Aside0.mk (num_none (num_zero hr))
          have hl1 : decide ((1 : Int) < ((48 :: r : Bs).length : Int)) = true := decide_eq_true (by have := List.length_pos_iff.2 hr; rw [List.length_cons]; omega)
          generalize hlE : (48 :: r : Bs) = l at *
          clear hlE
          go_enter Tryd.func53, Tryd.ntmps53
          go_wp2
          go_ret2
          exact ⟨ret_rd HN.out.1.symm HN.out.2.symm, Below.refl _ _⟩
      · have e48 : ((y.toNat : Int) == 48) = false := beq_eq_false_iff_ne.2 (fun e => hy (UInt8.toNat_inj.1 (by simpa using (by omega : y.toNat = 48))))
        have hgo := Aside0.mk (num_go h0 h9 (by rintro ⟨h, _⟩; exact hy (by simpa using h)))
        obtain ⟨z, hz⟩ : ∃ z : Nat, y.toNat = z := ⟨_, rfl⟩
        rw [hz] at hx0 e48
        clear hz
        generalize hlE : (y :: r : Bs) = l at *
        clear hlE
        go_enter Tryd.func53, Tryd.ntmps53
        go_wp2_with fail
        clear hx0
        go_loopg [4, 5] l.length (fun gk v4 v5 wr => ∃ k m : Nat, k + gk = l.length ∧ v5 = .int .i64 k ∧ v4 = .int .i64 m ∧ Aside0 (decFrom 0 (l.take k) = some m) ∧ Aside0 (Below w.heap.size w wr))
        case atStart => exact ⟨0, 0, by omega, rfl, rfl, ⟨rfl⟩, ⟨Below.refl _ _⟩⟩
        case round =>
          obtain ⟨k, m, hk, rfl, rfl, hd, hb⟩ := hrel
          have HK := Aside0.mk hk
          have hm : m < 1000000000 := decFrom_lt9 hd.out (by rw [List.length_take]; omega)
          by_cases hlt : k < l.length
          · obtain ⟨x, hx⟩ : ∃ x, l[k]? = some x := ⟨_, List.getElem?_eq_getElem hlt⟩
            have hat := bS_at hx
            have HX := Aside0.mk hx
            have i0 : (0 : Int) ≤ (k : Int) := by omega
            have i1 : (k : Int) < (l.length : Int) := by omega
            have i2 : k < l.length := hlt
            have hx255 : x.toNat < 256 := x.toNat_lt
            obtain ⟨q, hq9⟩ : ∃ q : Nat, x.toNat = q := ⟨_, rfl⟩
            rw [hq9] at hat hx255
            have HQ9 := Aside0.mk hq9
            clear hk hx hq9
            by_cases hlo : q < 48
            · have HB := Aside0.mk (num_none (hgo.out.trans (decFrom_bad HX.out (by rw [HQ9.out]; omega))))
              have hlo' : (q : Int) < 48 := by omega
              have hd1 : decide ((q : Int) < 48) = true := decide_eq_true hlo'
              have hd2 : decide (q < 48) = true := decide_eq_true hlo
              go_wp2
              go_ret2
              exact ⟨ret_rd HB.out.1.symm HB.out.2.symm, hb.out⟩
            · by_cases hhi : 57 < q
              · have HB := Aside0.mk (num_none (hgo.out.trans (decFrom_bad HX.out (by rw [HQ9.out]; omega))))
                have hlo' : ¬ (q : Int) < 48 := by omega
                have hhi' : (57 : Int) < (q : Int) := by omega
                have hd1 : decide ((q : Int) < 48) = false := decide_eq_false hlo'
                have hd2 : decide (q < 48) = false := decide_eq_false hlo
                have hd3 : decide ((57 : Int) < (q : Int)) = true := decide_eq_true hhi'
                have hd4 : decide (57 < q) = true := decide_eq_true hhi
                go_wp2
                go_ret2
                exact ⟨ret_rd HB.out.1.symm HB.out.2.symm, hb.out⟩
              · have hlo' : ¬ (q : Int) < 48 := by omega
                have hhi' : ¬ (57 : Int) < (q : Int) := by omega
                have hd1 : decide ((q : Int) < 48) = false := decide_eq_false hlo'
                have hd2 : decide (q < 48) = false := decide_eq_false hlo
                have hd3 : decide ((57 : Int) < (q : Int)) = false := decide_eq_false hhi'
                have hd4 : decide (57 < q) = false := decide_eq_false hhi
                have hw1 : IntKind.i64.wrap (10 * (m : Int)) = 10 * (m : Int) := by rw [IntKind.wrap_i64]; omega
                have hw2 : IntKind.u8.wrap ((q : Int) - 48) = (q : Int) - 48 := by simp only [IntKind.wrap, IntKind.bits, IntKind.signed, Bool.false_and, Bool.false_eq_true, if_false]; omega
                have hw3 : IntKind.i64.wrap ((q : Int) - 48) = (q : Int) - 48 := by rw [IntKind.wrap_i64]; omega
                have hw4 : IntKind.i64.wrap (10 * (m : Int) + ((q : Int) - 48)) = ((m * 10 + (q - 48) : Nat) : Int) := by rw [IntKind.wrap_i64]; omega
                have HD2 := Aside0.mk (Go.Lib.decFrom_take l k 0 m x (q - 48) hd.out HX.out (by unfold digitVal; rw [HQ9.out, if_pos (by omega)]))
                clear hd hlo hhi
                go_wp2_with fail
                go_roundg (gk - 1)
                case measure => have := HK.out; omega
                case rel => exact ⟨k + 1, m * 10 + (q - 48), by have := HK.out; omega, by go_num, rfl, HD2, hb⟩
          · have HE := Aside0.mk (nm_some (hgo.out.trans (by have := hd.out; rw [List.take_of_length_le (by omega)] at this; exact this)))
            have i1 : ¬ (k : Int) < (l.length : Int) := by omega
            clear hk hd
            go_wp2
            go_ret2
            exact ⟨ret_rd HE.out.1.symm HE.out.2.symm, hb.out⟩
end Go.Proofs.YtgibcacciedobaaDoor
