/- Comparing two books by an order: the reference's. -/
import Derived.Test.YtgdhopcbiekhhaaCmpS
import Derived.Test.YtgdhopcbiekhhaaCmpD
import Derived.StillTailTactics
import Derived.Still
namespace Go.Proofs.Ytgdhopcbiekhhaa
open Go.RowKit Go.Proofs.YtgdhopcbiekhhaaW.PrintWords Go.Proofs.YtgdhopcbiekhhaaW.PrintMore
set_option linter.unusedVariables false
set_option linter.unusedSimpArgs false
set_option maxRecDepth 100000

structure ArrAt (w : World) (n : Nat) (x y z : Int) : Prop where
  c0 : w.cell? ⟨n, 0, none⟩ = some (.int .i64 x)
  c1 : w.cell? ⟨n, 1, none⟩ = some (.int .i64 y)
  c2 : w.cell? ⟨n, 2, none⟩ = some (.int .i64 z)
theorem ArrAt.lt {w : World} {n : Nat} {x y z : Int} (h : ArrAt w n x y z) : n < w.heap.size := World.block_lt_of_cell? w ⟨n, 0, none⟩ h.c0
theorem ArrAt.below {w w1 : World} {n : Nat} {x y z : Int} (h : ArrAt w n x y z) (hb : Below w.heap.size w w1) : ArrAt w1 n x y z :=
  ⟨(hb.cell (p := ⟨n, 0, none⟩) h.lt).trans h.c0, (hb.cell (p := ⟨n, 1, none⟩) h.lt).trans h.c1, (hb.cell (p := ⟨n, 2, none⟩) h.lt).trans h.c2⟩
theorem ArrAt.box (w : World) (x y z : Int) (t : TypeId) : ArrAt (w.alloc (.cells #[.int .i64 x, .int .i64 y, .int .i64 z] t)) w.heap.size x y z :=
  ⟨(blk_cell (blk_new w _) 0).trans rfl, (blk_cell (blk_new w _) 1).trans rfl, (blk_cell (blk_new w _) 2).trans rfl⟩
def OrdOk (L : List Int) : Prop := ∀ x ∈ L, I8 x ∧ x ≠ 0
theorem sgn_eq {x : Int} {a b : Bk} (h0 : num0 (absF x) a = num0 (absF x) b) (h1 : num1 (absF x) a = num1 (absF x) b) (h2 : num2 (absF x) a = num2 (absF x) b) : sgnCmp x a b = 0 := by
  have : fldCmp (absF x) a b = 0 := by unfold fldCmp cmp3; rw [if_pos h0, if_pos h1, cmpI_eq h2]
  unfold sgnCmp
  rw [this]
  split <;> rfl
def sg (x u v : Int) : Int := if decide (u < v) = decide (0 < x) then -1 else 1
theorem sg_ne (x u v : Int) : sg x u v ≠ 0 := by unfold sg; split <;> decide
theorem sg_of {x u v : Int} (hx : x ≠ 0) (h : u ≠ v) : (if x < 0 then -cmpI u v else cmpI u v) = sg x u v := by
  unfold sg
  by_cases h1 : u < v
  · rw [cmpI_lt h1]
    by_cases h2 : 0 < x
    · rw [if_neg (by omega)]; simp [h1, h2]
    · rw [if_pos (by omega)]; simp [h1, h2]
  · rw [cmpI_gt (by omega)]
    by_cases h2 : 0 < x
    · rw [if_neg (by omega)]; simp [h1, h2]
    · rw [if_pos (by omega)]; simp [h1, h2]
theorem sgn_0 {x : Int} {a b : Bk} (hx : x ≠ 0) (h0 : num0 (absF x) a ≠ num0 (absF x) b) : sgnCmp x a b = sg x (num0 (absF x) a) (num0 (absF x) b) := by
  have : fldCmp (absF x) a b = cmpI (num0 (absF x) a) (num0 (absF x) b) := by unfold fldCmp cmp3; rw [if_neg h0]
  unfold sgnCmp
  rw [this]
  exact sg_of hx h0
theorem sgn_1 {x : Int} {a b : Bk} (hx : x ≠ 0) (h0 : num0 (absF x) a = num0 (absF x) b) (h1 : num1 (absF x) a ≠ num1 (absF x) b) : sgnCmp x a b = sg x (num1 (absF x) a) (num1 (absF x) b) := by
  have : fldCmp (absF x) a b = cmpI (num1 (absF x) a) (num1 (absF x) b) := by unfold fldCmp cmp3; rw [if_pos h0, if_neg h1]
  unfold sgnCmp
  rw [this]
  exact sg_of hx h1
theorem sgn_2 {x : Int} {a b : Bk} (hx : x ≠ 0) (h0 : num0 (absF x) a = num0 (absF x) b) (h1 : num1 (absF x) a = num1 (absF x) b) (h2 : num2 (absF x) a ≠ num2 (absF x) b) : sgnCmp x a b = sg x (num2 (absF x) a) (num2 (absF x) b) := by
  have : fldCmp (absF x) a b = cmpI (num2 (absF x) a) (num2 (absF x) b) := by unfold fldCmp cmp3; rw [if_pos h0, if_pos h1]
  unfold sgnCmp
  rw [this]
  exact sg_of hx h2
theorem sg_t {x u v : Int} (h : (decide (u < v) == decide (0 < x)) = true) : sg x u v = -1 := by unfold sg; rw [if_pos (by simpa using h)]
theorem sg_f {x u v : Int} (h : (decide (u < v) == decide (0 < x)) = false) : sg x u v = 1 := by unfold sg; rw [if_neg (by simpa using h)]
set_option maxHeartbeats 8000000 in
theorem l01Compare_c (A : Option Addr) (c : Nat) (L : List Int) (pa pb : Addr) (a b : Bk) (hoa : a.ok) (hob : b.ok) (w : World) (hL : (Kd.int .i8).C w A L.length L) (hk : OrdOk L) (ha : BkAt w pa a) (hb : BkAt w pb b) :
    Calls Try.prog 107 #[.slice A L.length c, .pointer (some pa), .pointer (some pb)] w (Ret w (.int .i64 (cmpBy L a b))) := by
  have hm := Kd.C_max hL
  have HL := Aside0.mk hL
  have HKK := Aside0.mk hk
  have HA := Aside0.mk ha
  have HB := Aside0.mk hb
  have HNA := Aside0.mk (fun f W h => l01Numbers_c f a hoa pa W h)
  have HNB := Aside0.mk (fun f W h => l01Numbers_c f b hob pb W h)
  simp only [nums] at HNA HNB
  clear hL hk ha hb hoa hob
  go_enter Try.func107, Try.ntmps107
  go_wp2
  go_loopg [7] L.length (fun gk v wr => ∃ k : Nat, k + gk = L.length ∧ v = .int .i64 k ∧ Aside0 (cmpBy (L.drop k) a b = cmpBy L a b) ∧ Aside0 (Below w.heap.size w wr))
  case atStart => exact ⟨0, by omega, rfl, ⟨by simp⟩, ⟨Below.refl _ _⟩⟩
  case round =>
    obtain ⟨k, hk, rfl, hp, hb⟩ := hrel
    have HK := Aside0.mk hk
    by_cases hlt : k < L.length
    · obtain ⟨ad, x, rfl, hx, hc⟩ := at_int' (Kd.C_below HL.out hb.out) k (by omega)
      have HF := Aside0.mk (l01Field_c x (HKK.out x (mem_of hx.out)).1)
      have HX0 := Aside0.mk (HKK.out x (mem_of hx.out)).2
      clear hk
      have i0 : (0 : Int) ≤ (k : Int) := by omega
      have i1 : (k : Int) < (L.length : Int) := by omega
      go_wp2_with fail
      refine (HF.out _).mono ?_; rintro _ w1 ⟨rfl, rfl⟩
      go_wp2_with fail
      refine (HNA.out _ _ (HA.out.below hb.out)).mono ?_; rintro _ w1 ⟨rfl, hb1⟩
      have HB1 := Aside0.mk (bstep hb.out hb1)
      clear hb1 hc
      go_wp2_with fail
      have HC1 := Aside0.mk (ArrAt.box w1 (num0 (absF x) a) (num1 (absF x) a) (num2 (absF x) a) 51)
      have HB2 := Aside0.mk (balloc HB1.out (.cells #[.int .i64 (num0 (absF x) a), .int .i64 (num1 (absF x) a), .int .i64 (num2 (absF x) a)] 51))
      generalize World.alloc w1 _ = w2 at HC1 HB2 ⊢
      refine (HNB.out _ _ (HB.out.below HB2.out)).mono ?_; rintro _ w3 ⟨rfl, hb3⟩
      have HB3 := Aside0.mk (bstep HB2.out hb3)
      have HC3 := Aside0.mk (HC1.out.below hb3)
      clear hb3
      go_wp2_with fail
      have HC4 := Aside0.mk (HC3.out.below (balloc (Below.refl _ _) (.cells #[.int .i64 (num0 (absF x) b), .int .i64 (num1 (absF x) b), .int .i64 (num2 (absF x) b)] 51)))
      have HD4 := Aside0.mk (ArrAt.box w3 (num0 (absF x) b) (num1 (absF x) b) (num2 (absF x) b) 51)
      have HB4 := Aside0.mk (balloc HB3.out (.cells #[.int .i64 (num0 (absF x) b), .int .i64 (num1 (absF x) b), .int .i64 (num2 (absF x) b)] 51))
      generalize World.alloc w3 _ = w4 at HC4 HD4 HB4 ⊢
      obtain ⟨ad', x', e', hx', hc4⟩ := at_int' (Kd.C_below HL.out HB4.out) k (by omega)
      injection e' with e'
      subst e'
      have hxx := hx'.out
      rw [hx.out] at hxx
      injection hxx with hxx
      subst hxx
      clear hx'
      obtain ⟨c0, c1, c2⟩ := HC4.out
      obtain ⟨d0, d1, d2⟩ := HD4.out
      clear HC1 HC3 HC4 HD4 HB1 HB2 HB3
      generalize w1.heap.size = n9 at c0 c1 c2 ⊢
      generalize w3.heap.size = n10 at d0 d1 d2 ⊢
      clear w1 w2 w3
      have h0 := @sgn_0 x a b HX0.out
      have h1 := @sgn_1 x a b HX0.out
      have h2 := @sgn_2 x a b HX0.out
      have h3 := @sgn_eq x a b
      generalize num0 (absF x) a = x0 at c0 h0 h1 h2 h3 ⊢
      generalize num1 (absF x) a = x1 at c1 h1 h2 h3 ⊢
      generalize num2 (absF x) a = x2 at c2 h2 h3 ⊢
      generalize num0 (absF x) b = y0 at d0 h0 h1 h2 h3 ⊢
      generalize num1 (absF x) b = y1 at d1 h1 h2 h3 ⊢
      generalize num2 (absF x) b = y2 at d2 h2 h3 ⊢
      by_cases e0 : x0 = y0
      · by_cases e1 : x1 = y1
        · by_cases e2 : x2 = y2
          · have HR := Aside0.mk (show cmpBy (L.drop (k + 1)) a b = cmpBy L a b by rw [← hp.out, cmpBy_eq hx.out (h3 e0 e1 e2)])
            have q0 : (x0 == y0) = true := by simpa using e0
            have q1 : (x1 == y1) = true := by simpa using e1
            have q2 : (x2 == y2) = true := by simpa using e2
            clear h0 h1 h2 h3 e0 e1 e2
            refine wp_loop_rounds 4 ?_
            iterate 3 (rw [rounds_succ]; go_wp2_with fail; go_quiet (fail); go_wp2)
            rw [rounds_succ]
            go_wp2_with fail
            go_roundg (gk - 1)
            case measure => have := HK.out; omega
            case rel => exact ⟨k + 1, by have := HK.out; omega, by go_num, HR, ⟨by repeat (first | exact HB4.out | refine bdrewN ?_ _)⟩⟩
          · have HR := Aside0.mk (show cmpBy L a b = sg x x2 y2 by rw [← hp.out, cmpBy_ne hx.out (by rw [h2 e0 e1 e2]; exact sg_ne _ _ _), h2 e0 e1 e2])
            have q0 : (x0 == y0) = true := by simpa using e0
            have q1 : (x1 == y1) = true := by simpa using e1
            have q2 : (x2 == y2) = false := by simpa using e2
            clear h0 h1 h2 h3 e0 e1 e2
            refine wp_loop_rounds 3 ?_
            iterate 2 (rw [rounds_succ]; go_wp2_with fail; go_quiet (fail); go_wp2)
            rw [rounds_succ]
            go_wp2_with fail
            go_quiet (fail)
            go_wp2
            go_quiet (fail)
            go_wp2
            all_goals first
              | (go_ret; exact ⟨ret_int (by rw [HR.out]; exact (sg_t ‹_›).symm), by repeat (first | exact HB4.out | refine bdrewN ?_ _)⟩)
              | (go_ret; exact ⟨ret_int (by rw [HR.out]; exact (sg_f ‹_›).symm), by repeat (first | exact HB4.out | refine bdrewN ?_ _)⟩)
        · have HR := Aside0.mk (show cmpBy L a b = sg x x1 y1 by rw [← hp.out, cmpBy_ne hx.out (by rw [h1 e0 e1]; exact sg_ne _ _ _), h1 e0 e1])
          have q0 : (x0 == y0) = true := by simpa using e0
          have q1 : (x1 == y1) = false := by simpa using e1
          clear h0 h1 h2 h3 e0 e1
          refine wp_loop_rounds 2 ?_
          iterate 1 (rw [rounds_succ]; go_wp2_with fail; go_quiet (fail); go_wp2)
          rw [rounds_succ]
          go_wp2_with fail
          go_quiet (fail)
          go_wp2
          go_quiet (fail)
          go_wp2
          all_goals first
            | (go_ret; exact ⟨ret_int (by rw [HR.out]; exact (sg_t ‹_›).symm), by repeat (first | exact HB4.out | refine bdrewN ?_ _)⟩)
            | (go_ret; exact ⟨ret_int (by rw [HR.out]; exact (sg_f ‹_›).symm), by repeat (first | exact HB4.out | refine bdrewN ?_ _)⟩)
      · have HR := Aside0.mk (show cmpBy L a b = sg x x0 y0 by rw [← hp.out, cmpBy_ne hx.out (by rw [h0 e0]; exact sg_ne _ _ _), h0 e0])
        have q0 : (x0 == y0) = false := by simpa using e0
        clear h0 h1 h2 h3 e0
        refine wp_loop_rounds 1 ?_
        rw [rounds_succ]
        go_wp2_with fail
        go_quiet (fail)
        go_wp2
        go_quiet (fail)
        go_wp2
        all_goals first
          | (go_ret; exact ⟨ret_int (by rw [HR.out]; exact (sg_t ‹_›).symm), by repeat (first | exact HB4.out | refine bdrewN ?_ _)⟩)
          | (go_ret; exact ⟨ret_int (by rw [HR.out]; exact (sg_f ‹_›).symm), by repeat (first | exact HB4.out | refine bdrewN ?_ _)⟩)
    · have HR := Aside0.mk (show cmpBy L a b = 0 by rw [← hp.out, List.drop_eq_nil_of_le (by omega)]; rfl)
      clear hk
      go_wp2
      go_ret
      exact ⟨ret_int HR.out.symm, hb.out⟩
end Go.Proofs.Ytgdhopcbiekhhaa
