/- LabelBound: the program's and the reference's. -/
import Derived.Test.YtgdhopcbiekhhaaRunsV
import Derived.Test.YtgdhopcbiekhhaaOrder
import Derived.Test.YtgdhopcbiekhhaaScal
import Derived.Test.YtgdhopcbiekhhaaSorted
import Derived.Test.YtgdhopcbiekhhaaOrd
import Derived.Maps.OwnOps
import Derived.Maps.OwnSet
import Derived.StillTailTactics
import Derived.Still
import Derived.Deep.QuietTactic
import Derived.BigQuiet
namespace Go.Proofs.Ytgdhopcbiekhhaa
open Go.RowKit Go.Proofs.YtgdhopcbiekhhaaW.PrintWords Go.Proofs.YtgdhopcbiekhhaaW.PrintMore
set_option linter.unusedVariables false
set_option linter.unusedSimpArgs false
set_option maxRecDepth 100000

open Go.Maps (Keyed)
def badAt (L : List Bk) (M : List Int) (i k : Nat) : Bool := match M[i]?, M[k]?, L[i]?, L[k]? with
  | some a, some b, some x, some y => decide (b = a) && decide (0 ≤ cmpU x y)
  | _, _, _, _ => false
theorem badAt_of {L : List Bk} {M : List Int} {i k : Nat} {a b : Int} {x y : Bk} (h1 : M[i]? = some a) (h2 : M[k]? = some b) (h3 : L[i]? = some x) (h4 : L[k]? = some y) : badAt L M i k = (decide (b = a) && decide (0 ≤ cmpU x y)) := by unfold badAt; rw [h1, h2, h3, h4]
def anyBad (L : List Bk) (M : List Int) : Bool := (List.range L.length).any (fun i => (List.range i).any (badAt L M i))
theorem anyBad_hit {L : List Bk} {M : List Int} {i k : Nat} (hi : i < L.length) (hk : k < i) (h : badAt L M i k = true) : anyBad L M = true := by
  unfold anyBad
  exact List.any_eq_true.2 ⟨i, List.mem_range.2 hi, List.any_eq_true.2 ⟨k, List.mem_range.2 hk, h⟩⟩
theorem anyBad_none {L : List Bk} {M : List Int} (h : ∀ i, i < L.length → ∀ k, k < i → badAt L M i k = false) : anyBad L M = false := by
  unfold anyBad
  rw [List.any_eq_false]
  intro i hi
  rw [Bool.not_eq_true, List.any_eq_false]
  intro k hk
  rw [Bool.not_eq_true]
  exact h i (List.mem_range.1 hi) k (List.mem_range.1 hk)
/-- How many different numbers are among the first k. -/
def dist (M : List Int) : Nat → Nat
  | 0 => 0
  | k + 1 => dist M k + (match M[k]? with
    | some a => if a ∈ M.take k then 0 else 1
    | none => 0)
theorem dist_old {M : List Int} {k : Nat} {a : Int} (h : M[k]? = some a) (hm : a ∈ M.take k) : dist M (k + 1) = dist M k := by rw [dist, h]; simp [hm]
theorem dist_new {M : List Int} {k : Nat} {a : Int} (h : M[k]? = some a) (hm : a ∉ M.take k) : dist M (k + 1) = dist M k + 1 := by rw [dist, h]; simp [hm]
theorem dist_le (M : List Int) (k : Nat) : dist M k ≤ k := by
  induction k with
  | zero => exact Nat.le_refl _
  | succ k ih =>
    rw [dist]
    split
    · split <;> omega
    · omega
theorem setI_tidy (q : IntKind) (xs : List Int) : Maps.Tidy (setI q xs) := by
  unfold setI
  exact Maps.tidy_setOf _ _ (by intro x hx; obtain ⟨n, _, rfl⟩ := List.mem_map.1 hx; trivial)
theorem setI_has (q : IntKind) (xs : List Int) (x : Int) : Maps.has (setI q xs) (.int q x) = decide (x ∈ xs) := by
  unfold setI
  rw [Maps.has_setOf _ _ _ (by intro x hx; obtain ⟨n, _, rfl⟩ := List.mem_map.1 hx; trivial), Bool.eq_iff_iff, List.any_eq_true, decide_eq_true_eq]
  constructor
  · rintro ⟨l, hl, hk⟩
    obtain ⟨n, hn, rfl⟩ := List.mem_map.1 hl
    by_cases e : n = x
    · rw [← e]; exact hn
    · rw [Maps.sameKey_ne (by intro h; injection h with _ h; exact e h)] at hk
      cases hk
  · intro h
    exact ⟨_, List.mem_map.2 ⟨x, h, rfl⟩, by simp [Lit.sameKey]⟩
theorem setI_sizeN {q : IntKind} {M : List Int} : ∀ (k : Nat), k ≤ M.length → Maps.size (setI q (M.take k)) = dist M k := by
  intro k
  induction k with
  | zero => intro _; rfl
  | succ k ih =>
    intro hk
    have hx : M[k]? = some M[k] := List.getElem?_eq_getElem (by omega)
    rw [take_snoc hx, setI_snoc, Maps.size_put (setI_tidy _ _), setI_has, ih (by omega)]
    by_cases h : M[k] ∈ M.take k
    · rw [dist_old hx h, decide_eq_true h, if_pos rfl]
    · rw [dist_new hx h, decide_eq_false h]; rfl
def lbE (L : List Bk) (M : List Int) : Int := if vBooks L = true then (if M.length = L.length then (if anyBad L M = true then 8 else 0) else 2) else 1
def lbV (L : List Bk) (M : List Int) : Int := if lbE L M = 0 then (L.length : Int) - (dist M M.length : Nat) else 0
theorem lb_bad {L : List Bk} {M : List Int} {e : Int} (h : lbE L M = e) (he : e ≠ 0) : lbV L M = 0 ∧ lbE L M = e := ⟨by unfold lbV; rw [h, if_neg he], h⟩
theorem lb_ok {L : List Bk} {M : List Int} (h : lbE L M = 0) : lbV L M = (L.length : Int) - (dist M M.length : Nat) ∧ lbE L M = 0 := ⟨by unfold lbV; rw [h, if_pos rfl], h⟩
theorem key64 : Keyed Try.prog 2 := Maps.int_keyed Try.underlying2
set_option maxHeartbeats 2000000 in
theorem l00Has_c (A : Option Addr) (c : Nat) (M : List Int) (n : Int) (w : World) (hL : (Kd.int .i64).C w A M.length M) : Calls Try.prog 126 #[.slice A M.length c, .int .i64 n] w (RetS w (.bool (decide (n ∈ M)))) := by
  have hm := Kd.C_max hL
  have HL := Aside0.mk hL
  clear hL
  go_enter Try.func126, Try.ntmps126
  go_wp2
  go_loopg [5] M.length (fun gk v wr => ∃ k : Nat, k + gk = M.length ∧ v = .int .i64 k ∧ Aside0 (n ∉ M.take k) ∧ w = wr)
  case atStart => exact ⟨0, by omega, rfl, ⟨by simp⟩, rfl⟩
  case round =>
    obtain ⟨k, hk, rfl, hp, rfl⟩ := hrel
    have HK := Aside0.mk hk
    by_cases hlt : k < M.length
    · obtain ⟨ad, x, rfl, hx, hc⟩ := at_int' HL.out k hlt
      have i0 : (0 : Int) ≤ (k : Int) := by omega
      have i1 : (k : Int) < (M.length : Int) := by omega
      clear hk
      by_cases q : x = n
      · have HR := Aside0.mk (show n ∈ M by rw [← q]; exact mem_of hx.out)
        have e : (x == n) = true := by simpa using q
        clear q
        go_wp2
        go_ret
        exact ⟨ret_bool (decide_eq_true HR.out).symm, rfl⟩
      · have HR := Aside0.mk (show n ∉ M.take (k + 1) by
          rw [take_snoc hx.out]
          intro h
          rcases List.mem_append.1 h with h | h
          · exact hp.out h
          · exact q (List.mem_singleton.1 h).symm)
        have e : (x == n) = false := by simpa using q
        clear q
        go_wp2
        go_roundg (gk - 1)
        case measure => have := HK.out; omega
        case rel => exact ⟨k + 1, by have := HK.out; omega, by go_num, HR, rfl⟩
    · have HR := Aside0.mk (show n ∉ M by have h1 := hp.out; rwa [List.take_of_length_le (by omega)] at h1)
      clear hk
      go_wp2
      go_ret
      exact ⟨ret_bool (decide_eq_false HR.out).symm, rfl⟩
set_option maxHeartbeats 8000000 in
theorem LabelBound_c (A A' : Option Addr) (c c' : Nat) (L : List Bk) (M : List Int) (w : World) (hL : kBk.C w A L.length L) (hM : (Kd.int .i64).C w A' M.length M) (hmo : ∀ x, x ∈ M → -9223372036854775808 ≤ x ∧ x ≤ 9223372036854775807) :
    Calls Try.prog 73 #[.slice A L.length c, .slice A' M.length c'] w (Ret w (.tuple #[.int .i64 (lbV L M), .int .i64 (lbE L M)])) := by
  have hm := Kd.C_max hL
  have hm2 := Kd.C_max hM
  have HL := Aside0.mk hL
  have HM := Aside0.mk hM
  have HMO := Aside0.mk hmo
  have HV := Aside0.mk (ValidBooks_c A c L w hL)
  have HC := Aside0.mk (fun x y W => compare_c x y W)
  simp only [Bk.val] at HC
  clear hL hM hmo
  cases h : vBooks L
  · rw [h] at HV
    have HE := Aside0.mk (lb_bad (L := L) (M := M) (e := 1) (by unfold lbE; rw [h]; rfl) (by decide))
    clear h
    go_enter Try.func73, Try.ntmps73
    go_wp2_with fail
    refine HV.out.mono ?_; rintro _ w1 ⟨rfl, hb1⟩
    go_wp2_with fail
    go_ret2
    exact ⟨ret_two HE.out.1.symm HE.out.2.symm, hb1⟩
  · rw [h] at HV
    have hn := vBooks_len h
    by_cases hl : M.length = L.length
    · have q1 : ((M.length : Int) != (L.length : Int)) = false := by simp [hl]
      have q2 : (M.length != L.length) = false := by simp [hl]
      have HE := Aside0.mk (show lbE L M = if anyBad L M = true then 8 else 0 by unfold lbE; rw [h, if_pos rfl, if_pos hl])
      have HLL := Aside0.mk hl
      have hmm := @run_makeMap Try.prog
      clear h hl
      go_enter Try.func73, Try.ntmps73
      go_wp2_with fail
      refine HV.out.mono ?_; rintro _ w1 ⟨rfl, hb1⟩
      have HB1 := Aside0.mk (balloc hb1 (.map #[] 0))
      have HM1 := Aside0.mk (World.ownsMap_made w1 Try.prog 2 (plainElem (H := Unit) Try.prog 4))
      have HZ1 := Aside0.mk hb1.size
      clear hb1 HV
      go_wp2_with fail
      clear hmm
      go_loopg [23] M.length (fun gk v wr => ∃ k : Nat, k + gk = M.length ∧ v = .int .i64 k ∧ Aside0 (∀ i, i < k → ∀ j, j < i → badAt L M i j = false) ∧ Aside0 (wr.ownsMap Try.prog 2 (plainElem Try.prog 4) w1.heap.size k (setI .i64 (M.take k))) ∧ Aside0 (Below w.heap.size w wr))
      case atStart => exact ⟨0, by omega, rfl, ⟨fun i h => absurd h (by omega)⟩, HM1, HB1⟩
      case round =>
        obtain ⟨k, hk, rfl, HP, HM2, HB⟩ := hrel
        have HK := Aside0.mk hk
        by_cases hlt : k < M.length
        · obtain ⟨ad', a, rfl, ha, hca⟩ := at_int' (Kd.C_below HM.out HB.out) k hlt
          have hkL : k < L.length := by have := HLL.out; omega
          obtain ⟨ad, x, rfl, hx, hxb⟩ := at_bk' (Kd.C_below HL.out HB.out) k hkL
          have HX := Aside0.mk hxb
          have HWF := Aside0.mk (HMO.out a (mem_of ha.out))
          have HTS := Aside0.mk (take_snoc ha.out)
          have i0 : (0 : Int) ≤ (k : Int) := by omega
          have i1 : (k : Int) < (M.length : Int) := by omega
          have i2 : (k : Int) < (L.length : Int) := by omega
          clear hk hxb
          obtain ⟨wo, rfl⟩ : ∃ wo : World, wo = wr := ⟨_, rfl⟩
          obtain ⟨gO, rfl⟩ : ∃ g : Nat, g = gk := ⟨_, rfl⟩
          go_wp2_with fail
          go_loopg [29] k (fun gk v wr => ∃ j : Nat, j + gk = k ∧ v = .int .i64 j ∧ Aside0 (∀ i, i < j → badAt L M k i = false) ∧ Aside0 (Below wo.heap.size wo wr))
          case atStart => exact ⟨0, by omega, rfl, ⟨fun i h => absurd h (by omega)⟩, ⟨Below.refl _ _⟩⟩
          case round =>
            obtain ⟨j, hj, rfl, HPj, HBj⟩ := hrel
            have HJ := Aside0.mk hj
            by_cases hltj : j < k
            · obtain ⟨bd', b, e1, hb, hcb⟩ := at_int' (Kd.C_below HM.out (bstep HB.out HBj.out)) j (by omega)
              injection e1 with e1
              subst e1
              obtain ⟨bd, y, e2, hy, hyb⟩ := at_bk' (Kd.C_below HL.out (bstep HB.out HBj.out)) j (by omega)
              injection e2 with e2
              subst e2
              have HBA := Aside0.mk (badAt_of ha.out hb.out hx.out hy.out)
              have j1 : (0 : Int) ≤ (j : Int) := by omega
              have j2 : (j : Int) < (M.length : Int) := by omega
              have j3 : (j : Int) < (L.length : Int) := by omega
              have j4 : (j : Int) < (k : Int) := by omega
              obtain ⟨x0, x1, x2, x3, x4, x5, x6, x7⟩ := HX.out.below HBj.out
              obtain ⟨y0, y1, y2, y3, y4, y5, y6, y7⟩ := hyb
              clear hj
              by_cases hab : b = a
              · have e3 : (b == a) = true := by simpa using hab
                have HAB := Aside0.mk hab
                clear hab
                go_wp2_with fail
                go_still_tail 15, (by kernel_rfl)
                go_wp2_with fail
                refine (HC.out _ _ _).mono ?_; rintro _ w2 ⟨rfl, hb2⟩
                have HB2 := Aside0.mk (bstep (bdrew HBj.out) hb2)
                clear hb2 x0 x1 x2 x3 x4 x5 x6 x7 y0 y1 y2 y3 y4 y5 y6 y7
                by_cases hc : 0 ≤ cmpU x y
                · have HR := Aside0.mk (lb_bad (L := L) (M := M) (e := 8) (by rw [HE.out, anyBad_hit hkL hltj (by rw [HBA.out, decide_eq_true HAB.out, decide_eq_true hc]; rfl), if_pos rfl]) (by decide))
                  go_wp2
                  go_ret2
                  exact ⟨ret_two HR.out.1.symm HR.out.2.symm, bstep HB.out HB2.out⟩
                · have HS := Aside0.mk (show ∀ i, i < j + 1 → badAt L M k i = false from fun i hi => by
                    by_cases e : i = j
                    · rw [e, HBA.out, decide_eq_false hc, Bool.and_false]
                    · exact HPj.out i (by omega))
                  go_wp2
                  go_roundg (gk - 1)
                  case measure => have := HJ.out; omega
                  case rel => exact ⟨j + 1, by have := HJ.out; omega, by go_num, HS, HB2⟩
              · have e3 : (b == a) = false := by simpa using hab
                have HS := Aside0.mk (show ∀ i, i < j + 1 → badAt L M k i = false from fun i hi => by
                  by_cases e : i = j
                  · rw [e, HBA.out, decide_eq_false hab, Bool.false_and]
                  · exact HPj.out i (by omega))
                clear hab
                go_wp2_with fail
                go_quiet (fail)
                go_wp2
                go_roundg (gk - 1)
                case measure => have := HJ.out; omega
                case rel => exact ⟨j + 1, by have := HJ.out; omega, by go_num, HS, ⟨bdrewN HBj.out _⟩⟩
            · have HS := Aside0.mk (show ∀ i, i < k + 1 → ∀ j, j < i → badAt L M i j = false from fun i hi m hm => by
                by_cases e : i = k
                · rw [e]; exact HPj.out m (by omega)
                · exact HP.out i (by omega) m hm)
              have HKY := Aside0.mk (Maps.keyOf_int_mk Try.underlying2 (WalkArith.wf_i64 HWF.out))
              have HM3 := Aside0.mk (World.ownsMap.kept HM2.out (grown_of_below HBj.out none) (by simp))
              have HSN := Aside0.mk (setI_snoc .i64 (M.take k) a)
              have HZ := Aside0.mk (show w.heap.size ≤ wr.heap.size from Nat.le_trans HB.out.size HBj.out.size)
              clear hj
              go_wp2_with (at_mapUpdate; refine wpList_mapUpdate_own _ rfl _ _ _ 129 rfl 2 4 key64 Try.underlying129 _ w1.heap.size k _ rfl HM3.out (by unfold maxLen; omega) _ _ _ rfl rfl HKY.out _ [] (plainElem_bool Try.underlying4 true) ?_; intro w2 hM4 hg2; have HM4 := Aside0.mk hM4; have HG2 := Aside0.mk hg2; clear hM4 hg2)
              go_roundg (gO - 1)
              case measure => have := HK.out; omega
              case rel => exact ⟨k + 1, by have := HK.out; omega, by go_num, HS, ⟨by rw [HTS.out, HSN.out]; exact HM4.out⟩, ⟨(bstep HB.out HBj.out).grown HG2.out HZ.out (fun j hj => by injection hj with hj; have := HZ1.out; omega)⟩⟩
        · have HR := Aside0.mk (lb_ok (L := L) (M := M) (by rw [HE.out, anyBad_none (fun i hi j hj => HP.out i (by have := HLL.out; omega) j hj)]; rfl))
          have HSZ := Aside0.mk (show Maps.size (setI .i64 (M.take k)) = dist M M.length by rw [setI_sizeN k (by omega), show k = M.length by omega])
          have hd := dist_le M M.length
          have hll := HLL.out
          have hd2 : dist M M.length ≤ L.length := by omega
          clear hk hd hll
          go_wp2_with (at_len; refine wpList_len_own (w := wr) rfl _ 129 rfl 2 4 Try.underlying129 _ w1.heap.size k _ rfl HM2.out ?_; rw [HSZ.out])
          go_ret2
          exact ⟨ret_two (by rw [HR.out.1]) HR.out.2.symm, HB.out⟩
    · have HE := Aside0.mk (lb_bad (L := L) (M := M) (e := 2) (by unfold lbE; rw [h, if_pos rfl, if_neg hl]) (by decide))
      have q1 : ((M.length : Int) != (L.length : Int)) = true := by simp; omega
      have q2 : (M.length != L.length) = true := by simpa using hl
      clear h hl
      go_enter Try.func73, Try.ntmps73
      go_wp2_with fail
      refine HV.out.mono ?_; rintro _ w1 ⟨rfl, hb1⟩
      go_wp2_with fail
      go_ret2
      exact ⟨ret_two HE.out.1.symm HE.out.2.symm, hb1⟩
set_option maxHeartbeats 8000000 in
theorem specLabelBound_c (A A' : Option Addr) (c c' : Nat) (L : List Bk) (M : List Int) (hlc : M.length ≤ c') (hok : OkL L) (w : World) (hL : kBk.C w A L.length L) (hM : (Kd.int .i64).C w A' M.length M) :
    Calls Try.prog 71 #[.slice A L.length c, .slice A' M.length c'] w (Ret w (.tuple #[.int .i64 (lbV L M), .int .i64 (lbE L M)])) := by
  have hm := Kd.C_max hL
  have hm2 := Kd.C_max hM
  have HL := Aside0.mk hL
  have HM := Aside0.mk hM
  have HO := Aside0.mk hok
  have HV := Aside0.mk (l01Ok_c A c L hok w hL)
  clear hL hM hok
  cases h : vBooks L
  · rw [h] at HV
    have HE := Aside0.mk (lb_bad (L := L) (M := M) (e := 1) (by unfold lbE; rw [h]; rfl) (by decide))
    clear h
    go_enter Try.func71, Try.ntmps71
    go_wp2_with fail
    refine HV.out.mono ?_; rintro _ w1 ⟨rfl, hb1⟩
    go_wp2_with fail
    go_ret2
    exact ⟨ret_two HE.out.1.symm HE.out.2.symm, hb1⟩
  · rw [h] at HV
    have hn := vBooks_len h
    by_cases hl : M.length = L.length
    · have q1 : ((M.length : Int) != (L.length : Int)) = false := by simp [hl]
      have q2 : (M.length != L.length) = false := by simp [hl]
      have HE := Aside0.mk (show lbE L M = if anyBad L M = true then 8 else 0 by unfold lbE; rw [h, if_pos rfl, if_pos hl])
      have HLL := Aside0.mk hl
      clear h hl
      go_enter Try.func71, Try.ntmps71
      go_wp2_with fail
      refine HV.out.mono ?_; rintro _ w1 ⟨rfl, hb1⟩
      have HB1 := Aside0.mk hb1
      clear hb1 HV
      go_wp2_with fail
      go_loopg [6, 7, 8] L.length (fun gk v6 v v8 wr => ∃ k : Nat, k + gk = L.length ∧ v6 = .int .i64 ((L.length : Int) - (dist M k : Nat)) ∧ v = .int .i64 k ∧ Aside0 (∀ i, i < k → ∀ j, j < i → badAt L M i j = false) ∧ Aside0 (Below w.heap.size w wr))
      case atStart => exact ⟨0, by omega, by simp [dist], rfl, ⟨fun i h => absurd h (by omega)⟩, HB1⟩
      case round =>
        obtain ⟨k, hk, rfl, rfl, HP, HB⟩ := hrel
        have HK := Aside0.mk hk
        by_cases hlt : k < L.length
        · have hkM : k < M.length := by have := HLL.out; omega
          obtain ⟨ad', a, rfl, ha, hca⟩ := at_int' (Kd.C_below HM.out HB.out) k hkM
          obtain ⟨ad, x, rfl, hx, hxb⟩ := at_bk' (Kd.C_below HL.out HB.out) k hlt
          have HX := Aside0.mk hxb
          have hct := Kd.C_take (Kd.C_below HM.out HB.out) (Nat.le_of_lt hkM)
          have htl : (M.take k).length = k := by rw [List.length_take]; omega
          have HH := Aside0.mk (l00Has_c (some ad') c' (M.take k) a wr.drew (Kd.C_below hct (bdrew (Below.refl _ _))))
          rw [htl] at HH
          have HDO := Aside0.mk (fun h => dist_old ha.out h)
          have HDN := Aside0.mk (fun h => dist_new ha.out h)
          have hdl := dist_le M k
          obtain ⟨d, hd⟩ : ∃ d, dist M k = d := ⟨_, rfl⟩
          rw [hd] at HDO HDN hdl ⊢
          have i0 : (0 : Int) ≤ (k : Int) := by omega
          have i1 : (k : Int) < (M.length : Int) := by omega
          have i2 : (k : Int) < (L.length : Int) := by omega
          have i3 : (k : Int) ≤ (c' : Int) := by omega
          have i4 : k ≤ c' := by omega
          clear hk hxb hct htl hd
          obtain ⟨wo, rfl⟩ : ∃ wo : World, wo = wr := ⟨_, rfl⟩
          obtain ⟨gO, rfl⟩ : ∃ g : Nat, g = gk := ⟨_, rfl⟩
          obtain ⟨n', HN'⟩ : ∃ n' : Int, Aside0 (n' = (L.length : Int) - (dist M (k + 1) : Nat)) := ⟨_, ⟨rfl⟩⟩
          by_cases hmem : a ∈ M.take k
          · rw [decide_eq_true hmem] at HH
            have HNE := Aside0.mk (show n' = (L.length : Int) - (d : Nat) by rw [HN'.out, HDO.out hmem])
            clear hmem
            go_wp2_with fail
            go_still_tail 7, (by kernel_rfl)
            go_wp2_with fail
            refine HH.out.mono ?_; rintro _ w2 ⟨rfl, rfl⟩
            go_wp2_with fail
            go_loopg [8] k (fun gk v wr => ∃ j : Nat, j + gk = k ∧ v = .int .i64 j ∧ Aside0 (∀ i, i < j → badAt L M k i = false) ∧ Aside0 (Below wo.heap.size wo wr))
            case atStart => exact ⟨0, by omega, rfl, ⟨fun i h => absurd h (by omega)⟩, ⟨bdrew (Below.refl _ _)⟩⟩
            case round =>
              obtain ⟨j, hj, rfl, HPj, HBj⟩ := hrel
              have HJ := Aside0.mk hj
              by_cases hltj : j < k
              · obtain ⟨bd', b, e1, hb, hcb⟩ := at_int' (Kd.C_below HM.out (bstep HB.out HBj.out)) j (by omega)
                obtain ⟨cd', a2, e4, ha2, hca2⟩ := at_int' (Kd.C_below HM.out (bstep HB.out HBj.out)) k hkM
                injection e1 with e1
                subst e1
                injection e4 with e4
                subst e4
                have haa := ha2.out
                rw [ha.out] at haa
                injection haa with haa
                subst haa
                obtain ⟨bd, y, e2, hy, hyb⟩ := at_bk' (Kd.C_below HL.out (bstep HB.out HBj.out)) j (by omega)
                injection e2 with e2
                subst e2
                have HBA := Aside0.mk (badAt_of ha.out hb.out hx.out hy.out)
                have HU := Aside0.mk (l01Usual_c _ _ x y (HO.out x (mem_of hx.out)) (HO.out y (mem_of hy.out)) wr.drew ((HX.out.below HBj.out).below (bdrew (Below.refl _ _))) (hyb.below (bdrew (Below.refl _ _))))
                have j1 : (0 : Int) ≤ (j : Int) := by omega
                have j2 : (j : Int) < (M.length : Int) := by omega
                have j3 : (j : Int) < (L.length : Int) := by omega
                have j4 : (j : Int) < (k : Int) := by omega
                clear hj hyb ha2
                by_cases hab : b = a
                · have e3 : (b == a) = true := by simpa using hab
                  have HAB := Aside0.mk hab
                  clear hab
                  go_wp2_with fail
                  go_still_tail 16, (by kernel_rfl)
                  go_wp2_with fail
                  refine HU.out.mono ?_; rintro _ w2 ⟨rfl, hb2⟩
                  have HB2 := Aside0.mk (bstep (bdrew HBj.out) hb2)
                  clear hb2
                  by_cases hc : 0 ≤ cmpU x y
                  · have HR := Aside0.mk (lb_bad (L := L) (M := M) (e := 8) (by rw [HE.out, anyBad_hit hlt hltj (by rw [HBA.out, decide_eq_true HAB.out, decide_eq_true hc]; rfl), if_pos rfl]) (by decide))
                    go_wp2
                    go_ret2
                    exact ⟨ret_two HR.out.1.symm HR.out.2.symm, bstep HB.out HB2.out⟩
                  · have HS := Aside0.mk (show ∀ i, i < j + 1 → badAt L M k i = false from fun i hi => by
                      by_cases e : i = j
                      · rw [e, HBA.out, decide_eq_false hc, Bool.and_false]
                      · exact HPj.out i (by omega))
                    go_wp2
                    go_roundg (gk - 1)
                    case measure => have := HJ.out; omega
                    case rel => exact ⟨j + 1, by have := HJ.out; omega, by go_num, HS, HB2⟩
                · have e3 : (b == a) = false := by simpa using hab
                  have HS := Aside0.mk (show ∀ i, i < j + 1 → badAt L M k i = false from fun i hi => by
                    by_cases e : i = j
                    · rw [e, HBA.out, decide_eq_false hab, Bool.false_and]
                    · exact HPj.out i (by omega))
                  clear hab
                  go_wp2_with fail
                  go_quiet (fail)
                  go_wp2
                  go_roundg (gk - 1)
                  case measure => have := HJ.out; omega
                  case rel => exact ⟨j + 1, by have := HJ.out; omega, by go_num, HS, ⟨bdrewN HBj.out _⟩⟩
              · have HS := Aside0.mk (show ∀ i, i < k + 1 → ∀ j, j < i → badAt L M i j = false from fun i hi m hm => by
                  by_cases e : i = k
                  · rw [e]; exact HPj.out m (by omega)
                  · exact HP.out i (by omega) m hm)
                clear hj
                go_wp2
                go_roundg (gO - 1)
                case measure => have := HK.out; omega
                case rel => exact ⟨k + 1, by have := HK.out; omega, by rw [← HN'.out, HNE.out], by go_num, HS, ⟨bstep HB.out HBj.out⟩⟩
          · rw [decide_eq_false hmem] at HH
            have HNE := Aside0.mk (show n' = (L.length : Int) - (d : Nat) - 1 by rw [HN'.out, HDN.out hmem]; omega)
            clear hmem
            go_wp2_with fail
            go_still_tail 7, (by kernel_rfl)
            go_wp2_with fail
            refine HH.out.mono ?_; rintro _ w2 ⟨rfl, rfl⟩
            go_wp2_with fail
            go_loopg [8] k (fun gk v wr => ∃ j : Nat, j + gk = k ∧ v = .int .i64 j ∧ Aside0 (∀ i, i < j → badAt L M k i = false) ∧ Aside0 (Below wo.heap.size wo wr))
            case atStart => exact ⟨0, by omega, rfl, ⟨fun i h => absurd h (by omega)⟩, ⟨bdrew (Below.refl _ _)⟩⟩
            case round =>
              obtain ⟨j, hj, rfl, HPj, HBj⟩ := hrel
              have HJ := Aside0.mk hj
              by_cases hltj : j < k
              · obtain ⟨bd', b, e1, hb, hcb⟩ := at_int' (Kd.C_below HM.out (bstep HB.out HBj.out)) j (by omega)
                obtain ⟨cd', a2, e4, ha2, hca2⟩ := at_int' (Kd.C_below HM.out (bstep HB.out HBj.out)) k hkM
                injection e1 with e1
                subst e1
                injection e4 with e4
                subst e4
                have haa := ha2.out
                rw [ha.out] at haa
                injection haa with haa
                subst haa
                obtain ⟨bd, y, e2, hy, hyb⟩ := at_bk' (Kd.C_below HL.out (bstep HB.out HBj.out)) j (by omega)
                injection e2 with e2
                subst e2
                have HBA := Aside0.mk (badAt_of ha.out hb.out hx.out hy.out)
                have HU := Aside0.mk (l01Usual_c _ _ x y (HO.out x (mem_of hx.out)) (HO.out y (mem_of hy.out)) wr.drew ((HX.out.below HBj.out).below (bdrew (Below.refl _ _))) (hyb.below (bdrew (Below.refl _ _))))
                have j1 : (0 : Int) ≤ (j : Int) := by omega
                have j2 : (j : Int) < (M.length : Int) := by omega
                have j3 : (j : Int) < (L.length : Int) := by omega
                have j4 : (j : Int) < (k : Int) := by omega
                clear hj hyb ha2
                by_cases hab : b = a
                · have e3 : (b == a) = true := by simpa using hab
                  have HAB := Aside0.mk hab
                  clear hab
                  go_wp2_with fail
                  go_still_tail 16, (by kernel_rfl)
                  go_wp2_with fail
                  refine HU.out.mono ?_; rintro _ w2 ⟨rfl, hb2⟩
                  have HB2 := Aside0.mk (bstep (bdrew HBj.out) hb2)
                  clear hb2
                  by_cases hc : 0 ≤ cmpU x y
                  · have HR := Aside0.mk (lb_bad (L := L) (M := M) (e := 8) (by rw [HE.out, anyBad_hit hlt hltj (by rw [HBA.out, decide_eq_true HAB.out, decide_eq_true hc]; rfl), if_pos rfl]) (by decide))
                    go_wp2
                    go_ret2
                    exact ⟨ret_two HR.out.1.symm HR.out.2.symm, bstep HB.out HB2.out⟩
                  · have HS := Aside0.mk (show ∀ i, i < j + 1 → badAt L M k i = false from fun i hi => by
                      by_cases e : i = j
                      · rw [e, HBA.out, decide_eq_false hc, Bool.and_false]
                      · exact HPj.out i (by omega))
                    go_wp2
                    go_roundg (gk - 1)
                    case measure => have := HJ.out; omega
                    case rel => exact ⟨j + 1, by have := HJ.out; omega, by go_num, HS, HB2⟩
                · have e3 : (b == a) = false := by simpa using hab
                  have HS := Aside0.mk (show ∀ i, i < j + 1 → badAt L M k i = false from fun i hi => by
                    by_cases e : i = j
                    · rw [e, HBA.out, decide_eq_false hab, Bool.false_and]
                    · exact HPj.out i (by omega))
                  clear hab
                  go_wp2_with fail
                  go_quiet (fail)
                  go_wp2
                  go_roundg (gk - 1)
                  case measure => have := HJ.out; omega
                  case rel => exact ⟨j + 1, by have := HJ.out; omega, by go_num, HS, ⟨bdrewN HBj.out _⟩⟩
              · have HS := Aside0.mk (show ∀ i, i < k + 1 → ∀ j, j < i → badAt L M i j = false from fun i hi m hm => by
                  by_cases e : i = k
                  · rw [e]; exact HPj.out m (by omega)
                  · exact HP.out i (by omega) m hm)
                clear hj
                go_wp2
                go_roundg (gO - 1)
                case measure => have := HK.out; omega
                case rel => exact ⟨k + 1, by have := HK.out; omega, by rw [← HN'.out, HNE.out], by go_num, HS, ⟨bstep HB.out HBj.out⟩⟩
        · have HR := Aside0.mk (lb_ok (L := L) (M := M) (by rw [HE.out, anyBad_none (fun i hi j hj => HP.out i (by omega) j hj)]; rfl))
          have HSZ := Aside0.mk (show dist M k = dist M M.length by rw [show k = M.length by have := HLL.out; omega])
          clear hk
          go_wp2
          go_ret2
          exact ⟨ret_two (by rw [HR.out.1, HSZ.out]) HR.out.2.symm, HB.out⟩
    · have HE := Aside0.mk (lb_bad (L := L) (M := M) (e := 2) (by unfold lbE; rw [h, if_pos rfl, if_neg hl]) (by decide))
      have q1 : ((M.length : Int) != (L.length : Int)) = true := by simp; omega
      have q2 : (M.length != L.length) = true := by simpa using hl
      clear h hl
      go_enter Try.func71, Try.ntmps71
      go_wp2_with fail
      refine HV.out.mono ?_; rintro _ w1 ⟨rfl, hb1⟩
      go_wp2_with fail
      go_ret2
      exact ⟨ret_two HE.out.1.symm HE.out.2.symm, hb1⟩
end Go.Proofs.Ytgdhopcbiekhhaa
