/- SwapAll: the reference's. -/
import Derived.Test.YtdippdkneeocfaaSwapAll
import Derived.StillTailTactics
import Derived.Still
import Derived.Deep.QuietTactic
import Derived.BigQuiet
import Derived.BigRegion
import Derived.RegionTactic
import Derived.ChangeAlike
namespace Go.Proofs.Ytdippdkneeocfaa
open Go.RowKit Go.Proofs.YtdippdkneeocfaaW.PrintWords Go.Proofs.YtdippdkneeocfaaW.PrintMore
set_option linter.unusedVariables false
set_option linter.unusedSimpArgs false
set_option maxRecDepth 100000

theorem l03Can_c (n : Nat) (x : Mv) (hn : n ≤ 1000) (hx : x.ok) (w : World) : Calls Try.prog 105 #[.int .i64 n, x.val] w (Ret w (.bool (mvOk n x))) := by
  obtain ⟨⟨a1, a2⟩, b1, b2⟩ := hx
  have HB := Aside0.mk (balloc (Below.refl w.heap.size w) (.cells #[.int .i16 x.a, .int .i16 x.b] 103))
  have HE := Aside0.mk (show mvOk n x = (inR x.a 0 ((n : Int) - 1) && inR x.b 0 ((n : Int) - 1)) from rfl)
  have HW := Aside0.mk (fun m W => l00In_c m 0 ((n : Int) - 1) W)
  have iw : IntKind.i64.wrap ((n : Int) - 1) = (n : Int) - 1 := by simp only [IntKind.wrap, IntKind.bits, IntKind.signed, Bool.true_and, decide_eq_true_eq, ge_iff_le]; split <;> omega
  simp only [Mv.val]
  cases h1 : inR x.a 0 ((n : Int) - 1)
  · have H1 := Aside0.mk (HW.out x.a)
    rw [h1] at H1 HE
    clear h1
    go_enter Try.func105, Try.ntmps105
    go_wp2_with fail
    refine (H1.out _).mono ?_; rintro _ w1 ⟨rfl, rfl⟩
    go_wp2_with fail
    go_ret
    exact ⟨ret_bool HE.out.symm, HB.out⟩
  · have H1 := Aside0.mk (HW.out x.a)
    rw [h1] at H1 HE
    clear h1
    go_enter Try.func105, Try.ntmps105
    go_wp2_with fail
    refine (H1.out _).mono ?_; rintro _ w1 ⟨rfl, rfl⟩
    go_wp2_with fail
    refine (HW.out _ _).mono ?_; rintro _ w1 ⟨rfl, rfl⟩
    go_wp2_with fail
    go_ret
    exact ⟨ret_bool HE.out.symm, HB.out⟩
theorem RowIs.put8 {W W' : World} {B : Nat} {ok : Nat → Prop} {w : World} {g n cap : Nat} {C : List Bk} {i : Nat} {y : Bk} (h : RowIs B ok w g n cap C W) (hi : i < n) (e : (W.setCells g (i * 8) (Bk.cells y)).drew = W') : RowIs B ok w g n cap (C.set i y) W' := by
  subst e
  obtain ⟨h3, h4⟩ := row_put8 y h.1 hi
  exact RowIs.drew (show RowIs B ok w g n cap (C.set i y) _ from And.intro h3 (h.2.trans h4))
theorem sa_bad {L : List Bk} {M : List Mv} {e : Int} (h : saE L M = e) (he : e ≠ 0) : saV L M = [] ∧ saE L M = e := ⟨by unfold saV; rw [h, if_neg he], h⟩
set_option maxHeartbeats 8000000 in
theorem specSwapAll_c (A0 A1 : Option Addr) (c0 c1 : Nat) (L : List Bk) (M : List Mv) (w : World) (hoL : OkL L) (hoM : OkM M) (hL : kBk.C w A0 L.length L) (hM : kMv.C w A1 M.length M) :
    Calls Try.prog 35 #[.slice A0 L.length c0, .slice A1 M.length c1] w (RetQ w (TupB w (saV L M) (saE L M))) := by
  have hm0 := Kd.C_max hL
  have hm1 := Kd.C_max hM
  have HL := Aside0.mk hL
  have HM := Aside0.mk hM
  have HOM := Aside0.mk hoM
  have HV := Aside0.mk (l01Ok_c A0 c0 L hoL w hL)
  clear hL hM hoL hoM
  cases h1 : vBooks L
  · rw [h1] at HV
    have HE := Aside0.mk (sa_bad (L := L) (M := M) (e := 1) (by unfold saE; rw [h1]; rfl) (by decide))
    clear h1
    go_enter Try.func35, Try.ntmps35
    go_wp2_with fail
    refine HV.out.mono ?_; rintro _ w1 ⟨rfl, hb1⟩
    have HB1 := Aside0.mk hb1
    clear hb1
    go_wp2_with fail
    go_ret2
    rw [HE.out.1, HE.out.2]
    exact ⟨_, rfl, balloc HB1.out _, _, rfl, R_zero _ _ _ _ _ HB1.out.size trivial⟩
  · rw [h1] at HV
    have hl := vBooks_len h1
    by_cases h2 : 200 < M.length
    · have HE := Aside0.mk (sa_bad (L := L) (M := M) (e := 3) (by unfold saE; rw [if_pos h1, if_pos h2]) (by decide))
      clear h1
      go_enter Try.func35, Try.ntmps35
      go_wp2_with fail
      refine HV.out.mono ?_; rintro _ w1 ⟨rfl, hb1⟩
      have HB1 := Aside0.mk hb1
      clear hb1
      go_wp2_with fail
      go_ret2
      rw [HE.out.1, HE.out.2]
      exact ⟨_, rfl, balloc HB1.out _, _, rfl, R_zero _ _ _ _ _ HB1.out.size trivial⟩
    · have HB2 := Aside0.mk (fun (x : Mv) (hx : x ∈ M) (hbad : mvOk L.length x = false) => sa_bad (L := L) (M := M) (e := 2) (by
        unfold saE
        rw [if_pos h1, if_neg h2, if_neg]
        intro hall
        rw [List.all_eq_true.1 hall x hx] at hbad
        cases hbad) (by decide))
      have HOKE := Aside0.mk (fun (hall : M.all (mvOk L.length) = true) => show saV L M = swaps L M ∧ saE L M = 0 by
        have hE : saE L M = 0 := by unfold saE; rw [if_pos h1, if_neg h2, if_pos hall]
        exact ⟨by unfold saV; rw [if_pos hE], hE⟩)
      clear h1
      go_enter Try.func35, Try.ntmps35
      go_wp2_with fail
      refine HV.out.mono ?_; rintro _ w1 ⟨rfl, hb1⟩
      have HB1 := Aside0.mk hb1
      clear hb1
      have HL1 := Aside0.mk (Kd.C_below HL.out HB1.out)
      go_wp2_with (at_builtin; refine bk_append_all (w := w) rfl (.tmp 17) (.tmp 18) rfl A0 _ c0 L rfl rfl HL1.out HB1.out (by omega) ?_; intro v wb hR hB; have HR0 := Aside0.mk hR; have HB0 := Aside0.mk hB; clear hR hB)
      go_loopg [7] M.length (fun gk v7 wr => ∃ k : Nat, k + gk = M.length ∧ v7 = .int .i64 k ∧ Aside0 (∀ x, x ∈ M.take k → mvOk L.length x = true) ∧ Aside0 (kBk.R 27 wr w.heap.size (fun _ => True) v (swaps L (M.take k))) ∧ Aside0 (Below w.heap.size w wr))
      case atStart => exact ⟨0, by omega, rfl, ⟨by simp⟩, HR0, HB0⟩
      case round =>
        clear HR0 HB0 HB1 HL1
        obtain ⟨k, hk, rfl, hall, HR, HB⟩ := hrel
        have HK := Aside0.mk hk
        by_cases hlt : k < M.length
        · obtain ⟨ad, m, rfl, hm, p0w, p1w⟩ := at_mv HM.out k hlt
          have PW0 := Aside0.mk p0w
          have PW1 := Aside0.mk p1w
          have p0 := pw_cell_below HB.out p0w
          have p1 := pw_cell_below HB.out p1w
          clear p0w p1w
          have HCAN := Aside0.mk (fun W => l03Can_c L.length m (by omega) (HOM.out m (mem_of hm.out)) W)
          have i0 : (0 : Int) ≤ (k : Int) := by omega
          have i1 : (k : Int) < (M.length : Int) := by omega
          simp only [Mv.val] at HCAN
          cases hc : mvOk L.length m
          · rw [hc] at HCAN
            have HE := Aside0.mk (HB2.out m (mem_of hm.out) hc)
            clear hc hk
            go_wp2_with fail
            refine (HCAN.out _).mono ?_; rintro _ w2 ⟨rfl, hb2⟩
            have HBB := Aside0.mk (bstep HB.out hb2)
            clear hb2 p0 p1
            go_wp2_with fail
            go_ret2
            rw [HE.out.1, HE.out.2]
            exact ⟨_, rfl, balloc HBB.out _, _, rfl, R_zero _ _ _ _ _ HBB.out.size trivial⟩
          · rw [hc] at HCAN
            have HALL2 := Aside0.mk (show ∀ x, x ∈ M.take (k + 1) → mvOk L.length x = true by
              intro x hx
              rw [take_snoc hm.out] at hx
              rcases List.mem_append.1 hx with hx | hx
              · exact hall.out x hx
              · rw [List.mem_singleton.1 hx]; exact hc)
            obtain ⟨i, j, rfl, hi, hj⟩ := mv_in hc
            have HSN := Aside0.mk (show swaps L (M.take (k + 1)) = Srt.swp (swaps L (M.take k)) i j by rw [swaps_next hm.out]; simp)
            obtain ⟨C, hC⟩ : ∃ C, swaps L (M.take k) = C := ⟨_, rfl⟩
            have hCl : C.length = L.length := by rw [← hC, swaps_len]
            rw [hC] at HSN HR
            clear hC hc hk
            go_wp2_with fail
            refine (HCAN.out _).mono ?_; rintro _ w2 ⟨rfl, hb2⟩
            have HR2 := Aside0.mk (Kd.R_below HR.out hb2)
            have HBB := Aside0.mk (bstep HB.out hb2)
            have q0 := pw_cell_below hb2 p0
            have q1 := pw_cell_below hb2 p1
            clear hb2 p0 p1 HR HB HCAN
            obtain ⟨g, cap, e1, hgB, hgl, _⟩ := Kd.R_form HR2.out (by omega)
            rw [hCl] at e1
            subst e1
            have HRW := Aside0.mk (show RowIs w.heap.size (fun _ => True) w2 g L.length cap C w2 from ⟨HR2.out, World.grownBy.refl _ _⟩)
            obtain ⟨x, hx, r0, r1, r2, r3, r4, r5, r6, r7, s0, s1, s2, s3, s4, s5, s6, s7⟩ := row_at HRW.out.1 hi
            have i2 : (0 : Int) ≤ (i : Int) := by omega
            have i3 : (i : Int) < (L.length : Int) := by omega
            have j2 : (0 : Int) ≤ (j : Int) := by omega
            have j3 : (j : Int) < (L.length : Int) := by omega
            clear hCl
            go_wp2_with fail
            have HRW1 := Aside0.mk (RowIs.below HRW.out (balloc (Below.refl _ _) (.cells #[.int .i16 x.c, .int .u8 x.m0, .int .u8 x.m1, .int .u8 x.m2, .int .i16 x.v, .int .i16 x.wd, .int .i16 x.h, .int .i16 x.wt] 27)))
            have hblk := blk_new w2 (.cells #[.int .i16 x.c, .int .u8 x.m0, .int .u8 x.m1, .int .u8 x.m2, .int .i16 x.v, .int .i16 x.wd, .int .i16 x.h, .int .i16 x.wt] 27)
            have HBW1 := Aside0.mk (balloc HBB.out (.cells #[.int .i16 x.c, .int .u8 x.m0, .int .u8 x.m1, .int .u8 x.m2, .int .i16 x.v, .int .i16 x.wd, .int .i16 x.h, .int .i16 x.wt] 27))
            clear q0 q1 r0 r1 r2 r3 r4 r5 r6 r7 s0 s1 s2 s3 s4 s5 s6 s7
            generalize World.alloc w2 _ = W1 at HRW1 hblk HBW1 ⊢
            have HBLK := Aside0.mk hblk
            clear hblk
            have p0 := pw_cell_below HBW1.out PW0.out
            have p1 := pw_cell_below HBW1.out PW1.out
            obtain ⟨_, _, r0, r1, r2, r3, r4, r5, r6, r7, s0, s1, s2, s3, s4, s5, s6, s7⟩ := row_at HRW1.out.1 hi
            obtain ⟨y, hy, t0, t1, t2, t3, t4, t5, t6, t7, v0, v1, v2, v3, v4, v5, v6, v7⟩ := row_at HRW1.out.1 hj
            go_region
            go_wp2_with fail
            clear r0 r1 r2 r3 r4 r5 r6 r7 s0 s1 s2 s3 s4 s5 s6 s7 t0 t1 t2 t3 t4 t5 t6 t7 v0 v1 v2 v3 v4 v5 v6 v7 p0 p1
            obtain ⟨W12, e12⟩ : ∃ W, (W1.setCells g (i * 8) (Bk.cells y)).drew = W := ⟨_, rfl⟩
            have HR12 := Aside0.mk (RowIs.put8 (show RowIs w.heap.size (fun _ => True) W1 g L.length cap C W1 from ⟨HRW1.out.1, World.grownBy.refl _ _⟩) hi e12)
            simp only [Bk.cells, World.setCells, Nat.add_assoc, Nat.reduceAdd] at e12
            rw [e12]
            clear e12
            have HB12 := Aside0.mk (grown_below HBW1.out HR12.out.2 hgB HBW1.out.size)
            have hb12 := blk_grown HBLK.out HR12.out.2 (by intro h; injection h with h; omega)
            have c0 := blk_cell hb12 0
            have c1 := blk_cell hb12 1
            have c2 := blk_cell hb12 2
            have c3 := blk_cell hb12 3
            have c4 := blk_cell hb12 4
            have c5 := blk_cell hb12 5
            have c6 := blk_cell hb12 6
            have c7 := blk_cell hb12 7
            simp only [List.getElem?_toArray, List.getElem?_cons_zero, List.getElem?_cons_succ] at c0 c1 c2 c3 c4 c5 c6 c7
            have p1 := pw_cell_below HB12.out PW1.out
            obtain ⟨_, _, r0, r1, r2, r3, r4, r5, r6, r7, s0, s1, s2, s3, s4, s5, s6, s7⟩ := row_at HR12.out.1 hj
            clear hb12
            go_region
            go_wp2
            go_roundg (gk - 1)
            case measure => have := HK.out; omega
            have HX := HSN.out
            clear HSN r0 r1 r2 r3 r4 r5 r6 r7 s0 s1 s2 s3 s4 s5 s6 s7 c0 c1 c2 c3 c4 c5 c6 c7 p1
            refine ⟨k + 1, by have := HK.out; omega, by go_num, HALL2, ?_⟩
            rw [HX, Srt.swp_at hx.out hy.out]
            exact row_pair (RowIs.put8 (y := x) (i := j) HR12.out hj (by simp only [Bk.cells, World.setCells, Nat.add_assoc, Nat.reduceAdd])) HBW1.out hgB
        · have hk1 : M.take k = M := List.take_of_length_le (by omega)
          have HE := Aside0.mk (HOKE.out (List.all_eq_true.2 (by rw [← hk1]; exact hall.out)))
          rw [hk1] at HR
          clear hk hk1
          go_wp2_with fail
          go_ret2
          rw [HE.out.1, HE.out.2]
          exact ⟨_, rfl, HB.out, _, rfl, HR.out⟩
theorem saV_len (L : List Bk) (M : List Mv) : (saV L M).length ≤ L.length := by
  unfold saV
  split
  · rw [swaps_len]; exact Nat.le_refl _
  · exact Nat.zero_le _
end Go.Proofs.Ytdippdkneeocfaa
