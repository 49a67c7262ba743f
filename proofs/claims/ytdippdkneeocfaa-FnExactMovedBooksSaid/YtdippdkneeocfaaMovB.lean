/- MovedBooks: the program's and the reference's. -/
import Derived.Test.YtdippdkneeocfaaMovA
import Derived.Test.YtdippdkneeocfaaOver
import Derived.StillTailTactics
import Derived.Still
import Derived.Deep.QuietTactic
import Derived.BigQuiet
import Derived.Deep.RegionHeld3
namespace Go.Proofs.Ytdippdkneeocfaa
open Go.RowKit Go.Proofs.YtdippdkneeocfaaW.PrintWords Go.Proofs.YtdippdkneeocfaaW.PrintMore
set_option linter.unusedVariables false
set_option linter.unusedSimpArgs false
set_option maxRecDepth 100000

/-- How many of the first m books stand on different shelves. -/
def mvCnt (a b : List Int) : Nat → Nat
  | 0 => 0
  | m + 1 => mvCnt a b m + (if shOf a m = shOf b m then 0 else 1)
theorem mvCnt_le (a b : List Int) (m : Nat) : mvCnt a b m ≤ m := by
  induction m with
  | zero => exact Nat.le_refl _
  | succ m ih => rw [mvCnt]; split <;> omega
def lastOf (L : List Int) : Int := L.getLastD 0
theorem lastOf_at {L : List Int} {x : Int} (h : L[L.length - 1]? = some x) : lastOf L = x := by
  unfold lastOf
  rw [List.getLastD_eq_getLast?, List.getLast?_eq_getElem?, h]
  rfl
def mbE (a b : List Int) : Int := if a.length = b.length then (if (grow a && grow b) = true then (if a.length = 0 then 0 else if lastOf a = lastOf b then 0 else 2) else 2) else 4
def mbV (a b : List Int) : Int := if mbE a b = 0 then (if a.length = 0 then 0 else (mvCnt a b (lastOf a).toNat : Nat)) else 0
theorem mb_bad {a b : List Int} {e : Int} (h : mbE a b = e) (he : e ≠ 0) : mbV a b = 0 ∧ mbE a b = e := ⟨by unfold mbV; rw [h, if_neg he], h⟩
theorem grow_last {L : List Int} {x : Int} (h : grow L = true) (hx : L[L.length - 1]? = some x) : 0 ≤ x ∧ x ≤ 60 := by
  have := ((grF_iff L 0).1 h).2 x (mem_of hx)
  exact this
theorem mb_nil : mbV [] [] = 0 ∧ mbE [] [] = 0 := by
  have h : mbE [] [] = 0 := by unfold mbE grow grF; rfl
  exact ⟨by unfold mbV; rw [if_pos h]; rfl, h⟩
set_option maxHeartbeats 4000000 in
theorem specMoved0_c (A A' : Option Addr) (c c' : Nat) (w : World) (hL : (Kd.int .i64).C w A 0 []) (hL' : (Kd.int .i64).C w A' 0 []) :
    Calls Try.prog 49 #[.slice A 0 c, .slice A' 0 c'] w (Ret w (.tuple #[.int .i64 0, .int .i64 0])) := by
  have HL := Aside0.mk hL
  have HL' := Aside0.mk hL'
  clear hL hL'
  have HG := Aside0.mk (fun A c W (h : (Kd.int .i64).C W A 0 []) => (l02Numbers_c A c [] W h).mono fun e w' h => (⟨h.1, h.2.symm⟩ : e = .returned (.bool true) ∧ w' = W))
  simp only [List.length_nil] at HG
  go_enter Try.func49, Try.ntmps49
  go_wp2_with fail
  go_quiet (first | (go_at_call 122; exact Calls.quiet_of_same (HG.out _ _ _ (by first | exact Kd.C_drewN HL.out _ | exact Kd.C_drewN HL'.out _))))
  go_wp2
  refine wp_loop_once ?_
  go_wp2
  go_ret2
  exact ⟨rfl, bdrewN (Below.refl _ _) _⟩
theorem specMovedNe_c (A A' : Option Addr) (c c' : Nat) (L L' : List Int) (hll : L.length ≠ L'.length) (w : World) (hm : L.length ≤ 9223372036854775807) (hm' : L'.length ≤ 9223372036854775807) :
    Calls Try.prog 49 #[.slice A L.length c, .slice A' L'.length c'] w (Ret w (.tuple #[.int .i64 (mbV L L'), .int .i64 (mbE L L')])) := by
  have HE := Aside0.mk (mb_bad (a := L) (b := L') (e := 4) (by unfold mbE; rw [if_neg hll]) (by decide))
  have b0 : ((L.length : Int) != (L'.length : Int)) = true := by simp; omega
  have b0' : (L.length != L'.length) = true := by simpa using hll
  clear hll
  go_enter Try.func49, Try.ntmps49
  go_wp2
  go_ret2
  exact ⟨ret_two HE.out.1.symm HE.out.2.symm, Below.refl _ _⟩
set_option maxHeartbeats 4000000 in
theorem specMoved1_c (A A' : Option Addr) (c c' : Nat) (L L' : List Int) (hne : Aside0 (L.length ≠ 0)) (w : World) (hL : (Kd.int .i64).C w A L.length L) (hL' : (Kd.int .i64).C w A' L'.length L') :
    Calls Try.prog 49 #[.slice A L.length c, .slice A' L'.length c'] w (Ret w (.tuple #[.int .i64 (mbV L L'), .int .i64 (mbE L L')])) := by
  have hm := Kd.C_max hL
  have hm' := Kd.C_max hL'
  have HL := Aside0.mk hL
  have HL' := Aside0.mk hL'
  clear hL hL'
  have HG := Aside0.mk (fun W h => (l02Numbers_c A c L W h).mono fun e w' h => (⟨h.1, h.2.symm⟩ : e = .returned (.bool (grow L)) ∧ w' = W))
  have HG' := Aside0.mk (fun W h => (l02Numbers_c A' c' L' W h).mono fun e w' h => (⟨h.1, h.2.symm⟩ : e = .returned (.bool (grow L')) ∧ w' = W))
  by_cases hll : L.length = L'.length
  · have b0 : ((L.length : Int) != (L'.length : Int)) = false := by simp [hll]
    have b0' : (L.length != L'.length) = false := by simp [hll]
    cases g1 : grow L
    · have HE := Aside0.mk (mb_bad (a := L) (b := L') (e := 2) (by unfold mbE; rw [if_pos hll, g1]; rfl) (by decide))
      rw [g1] at HG
      clear g1 hll
      go_enter Try.func49, Try.ntmps49
      go_wp2_with fail
      go_quiet (first | (go_at_call 122; exact Calls.quiet_of_same (HG.out _ (Kd.C_drewN HL.out _))))
      go_wp2
      go_ret2
      exact ⟨ret_two HE.out.1.symm HE.out.2.symm, bdrewN (Below.refl _ _) _⟩
    · cases g2 : grow L'
      · have HE := Aside0.mk (mb_bad (a := L) (b := L') (e := 2) (by unfold mbE; rw [if_pos hll, g1, g2]; rfl) (by decide))
        rw [g1] at HG
        rw [g2] at HG'
        clear g1 g2 hll
        go_enter Try.func49, Try.ntmps49
        go_wp2_with fail
        go_quiet (first | (go_at_call_of 122 (Value.slice A L.length c); exact Calls.quiet_of_same (HG.out _ (Kd.C_drewN HL.out _))) | (go_at_call 122; exact Calls.quiet_of_same (HG'.out _ (Kd.C_drewN HL'.out _))))
        go_wp2
        go_ret2
        exact ⟨ret_two HE.out.1.symm HE.out.2.symm, bdrewN (Below.refl _ _) _⟩
      · by_cases h0 : L.length = 0
        · exact absurd h0 hne.out
        · have hlen' : 0 < L'.length := by omega
          have hlen : 0 < L.length := by omega
          have HLL := Aside0.mk hll
          obtain ⟨ad, x, rfl, hbk, hx⟩ := at_int' HL.out (L.length - 1) (by omega)
          obtain ⟨ad', y, rfl, hbk', hy⟩ := at_int' HL'.out (L'.length - 1) (by omega)
          have HX := Aside0.mk (grow_last g1 hbk.out)
          have HMX := Aside0.mk (mem_of hbk.out)
          have HMY := Aside0.mk (mem_of hbk'.out)
          have iw : IntKind.i64.wrap ((L.length : Int) - 1) = (L.length : Int) - 1 := by simp only [IntKind.wrap, IntKind.bits, IntKind.signed, Bool.true_and, decide_eq_true_eq, ge_iff_le]; split <;> omega
          have iw' : IntKind.i64.wrap ((L'.length : Int) - 1) = (L'.length : Int) - 1 := by simp only [IntKind.wrap, IntKind.bits, IntKind.signed, Bool.true_and, decide_eq_true_eq, ge_iff_le]; split <;> omega
          have it : ((L.length : Int) - 1).toNat = L.length - 1 := by omega
          have it' : ((L'.length : Int) - 1).toNat = L'.length - 1 := by omega
          have i1 : (1 : Int) ≤ (L.length : Int) := by omega
          have i1' : (1 : Int) ≤ (L'.length : Int) := by omega
          have hlx := lastOf_at hbk.out
          have hly := lastOf_at hbk'.out
          by_cases hxy : x = y
          · have hmE : mbE L L' = 0 := by unfold mbE; rw [if_pos hll, g1, g2]; simp only [Bool.and_self, if_true]; rw [if_neg h0, hlx, hly, if_pos hxy]
            have hmV : mbV L L' = (mvCnt L L' x.toNat : Nat) := by unfold mbV; rw [if_pos hmE, if_neg h0, hlx]
            have HE := Aside0.mk (And.intro hmV hmE)
            have HXY := Aside0.mk hxy
            have bq : (x != y) = false := by simp [hxy]
            rw [g1] at HG
            rw [g2] at HG'
            clear g1 g2 hll hmE hmV hlx hly h0 hxy
            go_enter Try.func49, Try.ntmps49
            go_wp2_with fail
            go_quiet (first | (go_at_call_of 122 (Value.slice (some ad) L.length c); exact Calls.quiet_of_same (HG.out _ (Kd.C_drewN HL.out _))) | (go_at_call 122; exact Calls.quiet_of_same (HG'.out _ (Kd.C_drewN HL'.out _))))
            go_wp2
            clear HG HG' b0 b0' bq
            go_loopg [6, 7] x.toNat (fun gk v6 v7 wr => ∃ k : Nat, k + gk = x.toNat ∧ v7 = .int .i64 k ∧ v6 = .int .i64 (mvCnt L L' k : Nat) ∧ Aside0 (Below w.heap.size w wr))
            case atStart => exact ⟨0, by omega, rfl, rfl, ⟨bdrewN (Below.refl _ _) _⟩⟩
            case round =>
              obtain ⟨k, hk, rfl, rfl, hb⟩ := hrel
              have HK := Aside0.mk hk
              have hx1 : wr.cell? (ad.add (L.length - 1)) = some (.int .i64 x) := pw_cell_below hb.out hx
              have hle := mvCnt_le L L' k
              obtain ⟨x0, x60⟩ := HX.out
              by_cases hlt : k < x.toNat
              · have hkx : (k : Int) < x := by omega
                have HS := Aside0.mk (l02Shelf_c (some ad) c L k wr (Kd.C_below HL.out hb.out) ⟨x, HMX.out, hkx⟩)
                have HS' := Aside0.mk (l02Shelf_c (some ad') c' L' k wr (Kd.C_below HL'.out hb.out) ⟨y, HMY.out, by rw [← HXY.out]; exact hkx⟩)
                have HN := Aside0.mk (show mvCnt L L' (k + 1) = mvCnt L L' k + (if shOf L k = shOf L' k then 0 else 1) from rfl)
                clear hk
                go_wp2_with fail
                refine HS.out.mono ?_; rintro _ w1 ⟨rfl, rfl⟩
                go_wp2_with fail
                refine HS'.out.mono ?_; rintro _ w1 ⟨rfl, rfl⟩
                generalize shOf L k = p at HN ⊢
                generalize shOf L' k = q at HN ⊢
                by_cases hpq : p = q
                · have hd : ((p : Int) != (q : Int)) = false := by simp [hpq]
                  have hd' : (p != q) = false := by simp [hpq]
                  rw [if_pos hpq] at HN
                  clear hpq
                  go_wp2_with fail
                  go_roundg (gk - 1)
                  case measure => have := HK.out; omega
                  case rel => exact ⟨k + 1, by have := HK.out; omega, by go_num, by rw [HN.out]; rfl, hb⟩
                · have hd : ((p : Int) != (q : Int)) = true := by simp; omega
                  have hd' : (p != q) = true := by simp; omega
                  rw [if_neg hpq] at HN
                  clear hpq
                  go_wp2_with fail
                  go_roundg (gk - 1)
                  case measure => have := HK.out; omega
                  case rel => exact ⟨k + 1, by have := HK.out; omega, by go_num, by rw [HN.out]; go_num, hb⟩
              · have hkx : ¬ ((k : Int) < x) := by omega
                have hke : k = x.toNat := by omega
                clear hk
                rw [← hke] at HE
                clear hke
                go_wp2
                go_ret2
                exact ⟨ret_two HE.out.1.symm HE.out.2.symm, hb.out⟩
          · have HE := Aside0.mk (mb_bad (a := L) (b := L') (e := 2) (by unfold mbE; rw [if_pos hll, g1, g2]; simp only [Bool.and_self, if_true]; rw [if_neg h0, hlx, hly, if_neg hxy]) (by decide))
            have bq : (x != y) = true := by simp [hxy]
            rw [g1] at HG
            rw [g2] at HG'
            clear g1 g2 hll hlx hly h0 hxy
            go_enter Try.func49, Try.ntmps49
            go_wp2_with fail
            go_quiet (first | (go_at_call_of 122 (Value.slice (some ad) L.length c); exact Calls.quiet_of_same (HG.out _ (Kd.C_drewN HL.out _))) | (go_at_call 122; exact Calls.quiet_of_same (HG'.out _ (Kd.C_drewN HL'.out _))))
            go_wp2
            go_ret2
            exact ⟨ret_two HE.out.1.symm HE.out.2.symm, bdrewN (Below.refl _ _) _⟩
  · have HE := Aside0.mk (mb_bad (a := L) (b := L') (e := 4) (by unfold mbE; rw [if_neg hll]) (by decide))
    have b0 : ((L.length : Int) != (L'.length : Int)) = true := by simp; omega
    have b0' : (L.length != L'.length) = true := by simpa using hll
    clear hll
    go_enter Try.func49, Try.ntmps49
    go_wp2
    go_ret2
    exact ⟨ret_two HE.out.1.symm HE.out.2.symm, Below.refl _ _⟩
theorem specMovedBooks_c (A A' : Option Addr) (c c' : Nat) (L L' : List Int) (w : World) (hL : (Kd.int .i64).C w A L.length L) (hL' : (Kd.int .i64).C w A' L'.length L') :
    Calls Try.prog 49 #[.slice A L.length c, .slice A' L'.length c'] w (Ret w (.tuple #[.int .i64 (mbV L L'), .int .i64 (mbE L L')])) := by
  by_cases h : L.length = 0 ∧ L'.length = 0
  · obtain rfl := List.eq_nil_of_length_eq_zero h.1
    obtain rfl := List.eq_nil_of_length_eq_zero h.2
    rw [mb_nil.1, mb_nil.2]
    exact specMoved0_c A A' c c' w hL hL'
  · by_cases h1 : L.length = 0
    · have h2 : L.length ≠ L'.length := fun e => h ⟨h1, by omega⟩
      exact specMovedNe_c A A' c c' L L' h2 w (Kd.C_max hL) (Kd.C_max hL')
    · exact specMoved1_c A A' c c' L L' ⟨h1⟩ w hL hL'
theorem Moved0_c (A A' : Option Addr) (c c' n : Nat) (w : World) (hn : n = 0) (hL : (Kd.int .i64).C w A n []) (hL' : (Kd.int .i64).C w A' n []) :
    Calls Try.prog 51 #[.slice A n c, .slice A' n c'] w (Ret w (.tuple #[.int .i64 0, .int .i64 0])) := by
  have HL := Aside0.mk hL
  have HL' := Aside0.mk hL'
  clear hL hL'
  have HG := Aside0.mk (fun A c W (h : (Kd.int .i64).C W A n []) => show Calls Try.prog 124 #[.slice A n c] W (Ret W (.bool true)) by
    subst hn
    exact isGrowing_c A c [] W h)
  have b0 : ((n : Int) != (n : Int)) = false := by simp
  have b1 : ((n : Int) == 0) = true := by simp; omega
  have b2 : ¬ ((0 : Int) < (n : Int)) := by omega
  have b3 : ¬ (0 < n) := by omega
  have b4 : (n : Int) ≤ 9223372036854775807 := by omega
  have b5 : decide (0 < n) = false := decide_eq_false b3
  clear hn
  go_enter Try.func51, Try.ntmps51
  go_wp2_with fail
  refine region_over (by kernel_rfl) (by kernel_rfl) ?_
  repeat (go_big_quiet_step (first | (go_at_call_of 124 (Value.slice A n c); exact Calls.over_of (HG.out A c _ (Kd.C_below HL.out (Over.h _)))) | (go_at_call 124; exact Calls.over_of (HG.out A' c' _ (Kd.C_below HL'.out (Over.h _))))))
  refine wpQuiet_nil ?_
  intro _ hw'
  obtain ⟨⟨wq2, hq_wq2⟩, hw''⟩ := hw'
  subst hw''
  have HB := Aside0.mk hq_wq2
  clear hq_wq2
  go_wp2_with fail
  go_ret2
  exact ⟨rfl, HB.out⟩
set_option maxHeartbeats 4000000 in
theorem Moved1_c (A A' : Option Addr) (c c' : Nat) (L L' : List Int) (hne : Aside0 (L.length ≠ 0)) (w : World) (hll : L'.length = L.length) (hL : (Kd.int .i64).C w A L.length L) (hL' : (Kd.int .i64).C w A' L.length L') :
    Calls Try.prog 51 #[.slice A L.length c, .slice A' L.length c'] w (Ret w (.tuple #[.int .i64 (mbV L L'), .int .i64 (mbE L L')])) := by
  have hm := Kd.C_max hL
  have HL := Aside0.mk hL
  have HL' := Aside0.mk hL'
  clear hL hL'
  have HG := Aside0.mk (fun W h => isGrowing_c A c L W h)
  have HG' := Aside0.mk (fun W (h : (Kd.int .i64).C W A' L.length L') => show Calls Try.prog 124 #[.slice A' L.length c'] W (Ret W (.bool (grow L'))) by
    have := isGrowing_c A' c' L' W (by rw [hll]; exact h)
    rwa [hll] at this)
  have HS := Aside0.mk (fun W h b => shelfOf_c A c L b W h)
  have HS' := Aside0.mk (fun W (h : (Kd.int .i64).C W A' L.length L') b => show Calls Try.prog 125 #[.slice A' L.length c', .int .i64 b] W (Ret W (.int .i64 (shOf L' b : Nat))) by
    have := shelfOf_c A' c' L' b W (by rw [hll]; exact h)
    rwa [hll] at this)
  have b0 : ((L.length : Int) != (L.length : Int)) = false := by simp
  cases g1 : grow L
  · have HE := Aside0.mk (mb_bad (a := L) (b := L') (e := 2) (by unfold mbE; rw [if_pos hll.symm, g1]; rfl) (by decide))
    rw [g1] at HG
    clear g1 hll
    go_enter Try.func51, Try.ntmps51
    go_wp2_with fail
    refine region_over (by kernel_rfl) (by kernel_rfl) ?_
    repeat (go_big_quiet_step (first | (go_at_call 124; exact Calls.over_of (HG.out _ (Kd.C_below HL.out (Over.h _))))))
    refine wpQuiet_nil ?_
    intro _ hw'
    obtain ⟨⟨wq1, hq_wq1⟩, hw''⟩ := hw'
    subst hw''
    have HB := Aside0.mk hq_wq1
    clear hq_wq1
    go_wp2_with fail
    go_ret2
    exact ⟨ret_two HE.out.1.symm HE.out.2.symm, HB.out⟩
  · cases g2 : grow L'
    · have HE := Aside0.mk (mb_bad (a := L) (b := L') (e := 2) (by unfold mbE; rw [if_pos hll.symm, g1, g2]; rfl) (by decide))
      rw [g1] at HG
      rw [g2] at HG'
      clear g1 g2 hll
      go_enter Try.func51, Try.ntmps51
      go_wp2_with fail
      refine region_over (by kernel_rfl) (by kernel_rfl) ?_
      repeat (go_big_quiet_step (first | (go_at_call_of 124 (Value.slice A L.length c); exact Calls.over_of (HG.out _ (Kd.C_below HL.out (Over.h _)))) | (go_at_call 124; exact Calls.over_of (HG'.out _ (Kd.C_below HL'.out (Over.h _))))))
      refine wpQuiet_nil ?_
      intro _ hw'
      obtain ⟨⟨wq2, hq_wq2⟩, hw''⟩ := hw'
      subst hw''
      have HB := Aside0.mk hq_wq2
      clear hq_wq2
      go_wp2_with fail
      go_ret2
      exact ⟨ret_two HE.out.1.symm HE.out.2.symm, HB.out⟩
    · have h0 : L.length ≠ 0 := hne.out
      have hlen : 0 < L.length := by omega
      obtain ⟨ad, x, rfl, hbk, hx⟩ := at_int' HL.out (L.length - 1) (by omega)
      obtain ⟨ad', y, rfl, hbk', hy⟩ := at_int' HL'.out (L.length - 1) (by omega)
      have HX := Aside0.mk (grow_last g1 hbk.out)
      have iw : IntKind.i64.wrap ((L.length : Int) - 1) = (L.length : Int) - 1 := by simp only [IntKind.wrap, IntKind.bits, IntKind.signed, Bool.true_and, decide_eq_true_eq, ge_iff_le]; split <;> omega
      have it : ((L.length : Int) - 1).toNat = L.length - 1 := by omega
      have i1 : (1 : Int) ≤ (L.length : Int) := by omega
      have bn : ((L.length : Int) == 0) = false := by simpa using h0
      have hlx := lastOf_at hbk.out
      have hly := lastOf_at (L := L') (x := y) (by rw [hll]; exact hbk'.out)
      have HS0 := Aside0.mk (show ∀ w', Below w.heap.size w w' → Below w.heap.size w w' ∧ w'.cell? (ad.add (L.length - 1)) = some (.int .i64 x) ∧ w'.cell? (ad'.add (L.length - 1)) = some (.int .i64 y) from fun w' h => ⟨h, pw_cell_below h hx, pw_cell_below h hy⟩)
      by_cases hxy : x = y
      · have hmE : mbE L L' = 0 := by unfold mbE; rw [if_pos hll.symm, g1, g2]; simp only [Bool.and_self, if_true]; rw [if_neg h0, hlx, hly, if_pos hxy]
        have hmV : mbV L L' = (mvCnt L L' x.toNat : Nat) := by unfold mbV; rw [if_pos hmE, if_neg h0, hlx]
        have HE := Aside0.mk (And.intro hmV hmE)
        have bq : (x != y) = false := by simp [hxy]
        rw [g1] at HG
        rw [g2] at HG'
        clear g1 g2 hll hmE hmV hlx hly h0 hxy
        have hxO : ∀ p : Over w, p.W.cell? (ad.add (L.length - 1)) = some (.int .i64 x) := Over.cell hx
        have hyO : ∀ p : Over w, p.W.cell? (ad'.add (L.length - 1)) = some (.int .i64 y) := Over.cell hy
        have d1 : decide (0 < L.length) = true := decide_eq_true hlen
        go_enter Try.func51, Try.ntmps51
        go_wp2_with fail
        refine region_over (by kernel_rfl) (by kernel_rfl) ?_
        repeat (go_big_quiet_step (first | (go_at_call_of 124 (Value.slice (some ad) L.length c); exact Calls.over_of (HG.out _ (Kd.C_below HL.out (Over.h _)))) | (go_at_call 124; exact Calls.over_of (HG'.out _ (Kd.C_below HL'.out (Over.h _))))))
        refine wpQuiet_nil ?_
        intro _ hw'
        obtain ⟨⟨wq2, hq_wq2⟩, hw''⟩ := hw'
        subst hw''
        have HB0 := Aside0.mk hq_wq2
        obtain ⟨_, hx1, hy1⟩ := HS0.out _ HB0.out
        clear hq_wq2 hxO hyO
        clear HG HG' HS0
        go_wp2_with fail
        clear hx1 bq bn
        go_loopg [7, 50] x.toNat (fun gk v6 v7 wr => ∃ k : Nat, k + gk = x.toNat ∧ v7 = .int .i64 k ∧ v6 = .int .i64 (mvCnt L L' k : Nat) ∧ Aside0 (Below w.heap.size w wr))
        case atStart => exact ⟨0, by omega, rfl, rfl, HB0⟩
        case round =>
          obtain ⟨k, hk, rfl, rfl, hb⟩ := hrel
          have HK := Aside0.mk hk
          have hle := mvCnt_le L L' k
          obtain ⟨x0, x60⟩ := HX.out
          by_cases hlt : k < x.toNat
          · have hkx : (k : Int) < x := by omega
            have HN := Aside0.mk (show mvCnt L L' (k + 1) = mvCnt L L' k + (if shOf L k = shOf L' k then 0 else 1) from rfl)
            clear hk
            go_wp2_with fail
            refine (HS.out _ (Kd.C_below HL.out hb.out) _).mono ?_; rintro _ w1 ⟨rfl, hb1⟩
            have HB1 := Aside0.mk (bstep hb.out hb1)
            clear hb1
            go_wp2_with fail
            refine (HS'.out _ (Kd.C_below HL'.out HB1.out) _).mono ?_; rintro _ w2 ⟨rfl, hb2⟩
            have HB2 := Aside0.mk (bstep HB1.out hb2)
            clear hb2
            generalize shOf L k = p at HN ⊢
            generalize shOf L' k = q at HN ⊢
            by_cases hpq : p = q
            · have hd : ((p : Int) != (q : Int)) = false := by simp [hpq]
              have hd' : (p != q) = false := by simp [hpq]
              rw [if_pos hpq] at HN
              clear hpq
              go_wp2_with fail
              go_roundg (gk - 1)
              case measure => have := HK.out; omega
              case rel => exact ⟨k + 1, by have := HK.out; omega, by go_num, by rw [HN.out]; rfl, HB2⟩
            · have hd : ((p : Int) != (q : Int)) = true := by simp; omega
              have hd' : (p != q) = true := by simp; omega
              rw [if_neg hpq] at HN
              clear hpq
              go_wp2_with fail
              go_roundg (gk - 1)
              case measure => have := HK.out; omega
              case rel => exact ⟨k + 1, by have := HK.out; omega, by go_num, by rw [HN.out]; go_num, HB2⟩
          · have hkx : ¬ ((k : Int) < x) := by omega
            have hke : k = x.toNat := by omega
            clear hk
            rw [← hke] at HE
            clear hke
            go_wp2
            go_ret2
            exact ⟨ret_two HE.out.1.symm HE.out.2.symm, hb.out⟩
      · have HE := Aside0.mk (mb_bad (a := L) (b := L') (e := 2) (by unfold mbE; rw [if_pos hll.symm, g1, g2]; simp only [Bool.and_self, if_true]; rw [if_neg h0, hlx, hly, if_neg hxy]) (by decide))
        have bq : (x != y) = true := by simp [hxy]
        rw [g1] at HG
        rw [g2] at HG'
        clear g1 g2 hll hlx hly h0 hxy
        have hxO : ∀ p : Over w, p.W.cell? (ad.add (L.length - 1)) = some (.int .i64 x) := Over.cell hx
        have hyO : ∀ p : Over w, p.W.cell? (ad'.add (L.length - 1)) = some (.int .i64 y) := Over.cell hy
        have d1 : decide (0 < L.length) = true := decide_eq_true hlen
        go_enter Try.func51, Try.ntmps51
        go_wp2_with fail
        refine region_over (by kernel_rfl) (by kernel_rfl) ?_
        repeat (go_big_quiet_step (first | (go_at_call_of 124 (Value.slice (some ad) L.length c); exact Calls.over_of (HG.out _ (Kd.C_below HL.out (Over.h _)))) | (go_at_call 124; exact Calls.over_of (HG'.out _ (Kd.C_below HL'.out (Over.h _))))))
        refine wpQuiet_nil ?_
        intro _ hw'
        obtain ⟨⟨wq2, hq_wq2⟩, hw''⟩ := hw'
        subst hw''
        have HB0 := Aside0.mk hq_wq2
        obtain ⟨_, hx1, hy1⟩ := HS0.out _ HB0.out
        clear hq_wq2 hxO hyO
        clear HG HG' HS0
        go_wp2_with fail
        go_ret2
        exact ⟨ret_two HE.out.1.symm HE.out.2.symm, HB0.out⟩
theorem MovedNe_c (A A' : Option Addr) (c c' : Nat) (L L' : List Int) (hll : L.length ≠ L'.length) (w : World) (hm : L.length ≤ 9223372036854775807) (hm' : L'.length ≤ 9223372036854775807) :
    Calls Try.prog 51 #[.slice A L.length c, .slice A' L'.length c'] w (Ret w (.tuple #[.int .i64 (mbV L L'), .int .i64 (mbE L L')])) := by
  have HE := Aside0.mk (mb_bad (a := L) (b := L') (e := 4) (by unfold mbE; rw [if_neg hll]) (by decide))
  have b0 : ((L'.length : Int) != (L.length : Int)) = true := by simp; omega
  have b0' : (L'.length != L.length) = true := by simp; omega
  clear hll
  go_enter Try.func51, Try.ntmps51
  go_wp2
  go_ret2
  exact ⟨ret_two HE.out.1.symm HE.out.2.symm, Below.refl _ _⟩
theorem MovedBooks_c (A A' : Option Addr) (c c' : Nat) (L L' : List Int) (w : World) (hL : (Kd.int .i64).C w A L.length L) (hL' : (Kd.int .i64).C w A' L'.length L') :
    Calls Try.prog 51 #[.slice A L.length c, .slice A' L'.length c'] w (Ret w (.tuple #[.int .i64 (mbV L L'), .int .i64 (mbE L L')])) := by
  by_cases h : L.length = L'.length
  · by_cases h1 : L.length = 0
    · obtain rfl := List.eq_nil_of_length_eq_zero h1
      obtain rfl := List.eq_nil_of_length_eq_zero h.symm
      rw [mb_nil.1, mb_nil.2]
      exact Moved0_c A A' c c' 0 w rfl hL hL'
    · rw [← h] at hL' ⊢
      exact Moved1_c A A' c c' L L' ⟨h1⟩ w h.symm hL hL'
  · exact MovedNe_c A A' c c' L L' h w (Kd.C_max hL) (Kd.C_max hL')
end Go.Proofs.Ytdippdkneeocfaa
