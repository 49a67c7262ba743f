/- The law FnExactReadCase returns true of every input. -/
import Derived.Test.YtgibcacciedobaaDoorTxG2
import Derived.Test.YtgibcacciedobaaDoorHeldC
import Derived.Test.YtgibcacciedobaaDoorMarkB
namespace Go.Proofs.YtgibcacciedobaaDoor
open Go.RowKit Go.Proofs.YtgibcacciedobaaDoorW.PrintWords Go.Proofs.YtgibcacciedobaaDoorW.PrintMore
set_option linter.unusedVariables false
set_option linter.unusedSimpArgs false
set_option maxRecDepth 100000

theorem crV_len (l : Bs) : (crV l).hs.length ≤ 12 := by
  by_cases h : ∃ k, RdC l k
  · obtain ⟨k, hk⟩ := h
    rw [(cr_ok hk).1]
    exact (vC1 hk.1).n.2
  · rw [(cr_no (fun k hk => h ⟨k, hk⟩)).1]
    exact Nat.zero_le _
theorem Apart.ne {α : Type} {d : Kd α} {e base : Nat} {w : World} {ok : Nat → Prop} {v : Value} {L : List α} (h : d.R e w base ok v L) {g : Nat} (hg : g < base ∨ w.heap.size ≤ g) : ∀ b, v.ownBlock = some b → b ≠ g := fun b hb => by
  have h1 := Kd.R_base h b hb
  have h2 := Kd.R_lt h b hb
  omega
theorem blk_grown {w w' : World} {v : Value} {g : Nat} {o : Obj} (hg : w.grownBy w' v.ownBlock) (h : w.heap[g]? = some o) (hne : ∀ b, v.ownBlock = some b → b ≠ g) : w'.heap[g]? = some o :=
  (hg.block g (blk_lt h) (fun he => hne g he.symm rfl)).trans h
set_option maxHeartbeats 4000000 in
theorem FnExactReadCase_c (s0 : ByteArray) (hs0 : s0.size ≤ maxLen) (w : World) (ht : Txt w) :
    Calls Tryd.prog 10 #[.string s0] w (Ret w (.bool true)) := by
  have HT := Aside0.mk ht
  clear ht
  obtain ⟨l, rfl⟩ : ∃ l : Bs, s0 = bS l := ⟨_, (bS_of s0).symm⟩
  have hsz : (bS l).size = l.length := bS_size l
  by_cases hlt0 : 1048576 < l.length
  · have hlti0 : (1048576 : Int) < (l.length : Int) := by omega
    go_enter Tryd.func10, Tryd.ntmps10
    go_wp2_with fail
    go_ret
    exact ⟨rfl, Below.refl _ _⟩
  · have hle0 : ¬ (1048576 : Int) < (l.length : Int) := by omega
    have hl : l.length ≤ 1048576 := by omega
    have HSP := Aside0.mk (fun (W : World) => specReadCase_c l hl W)
    have HIM := Aside0.mk (fun (W : World) (ht : Txt W) => ReadCase_c l hl W ht)
    have HLN := Aside0.mk (show (crV l).hs.length ≤ 2097152 from Nat.le_trans (crV_len l) (by decide))
    generalize crE l = e at HSP HIM
    generalize crV l = k at HSP HIM HLN
    have he : (e != e) = false := by simp
    go_enter Tryd.func10, Tryd.ntmps10
    go_wp2_with fail
    refine (HSP.out _).mono ?_; rintro _ w1 ⟨_, rfl, hb1, AV, cV, rfl, hcV, hv⟩
    have HB1 := Aside0.mk (balloc hb1 (.cells #[.int .i16 k.wd, .int .i32 k.ld, .slice AV k.hs.length cV] 54))
    have hx1 := blk_new w1 (.cells #[.int .i16 k.wd, .int .i32 k.ld, .slice AV k.hs.length cV] 54)
    have V1 := Aside0.mk (Own.below (Own.mk' (w0 := w) (kInt_E _) hv (Nat.le_refl _)) (balloc (Below.refl w1.heap.size w1) (.cells #[.int .i16 k.wd, .int .i32 k.ld, .slice AV k.hs.length cV] 54)))
    clear hb1 hv
    simp only [Cs.val]
    go_wp2_with fail
    generalize World.alloc w1 _ = W1 at hx1 HB1 V1 ⊢
    generalize w1.heap.size = g1 at hx1 ⊢
    refine (HIM.out _ (HT.out.below HB1.out)).mono ?_; rintro _ w2 ⟨_, rfl, hb2, AG, cG, rfl, hcG, hv⟩
    have hba : Below w2.heap.size w2 (w2.alloc (.cells #[.int .i16 k.wd, .int .i32 k.ld, .slice AG k.hs.length cG] 54)) := balloc (Below.refl _ _) _
    have HB2 := Aside0.mk (bstep (bstep HB1.out hb2) hba)
    have V2 := Aside0.mk (Own.below (Own.below V1.out hb2) hba)
    have G2 := Aside0.mk (Own.below (Own.mk' (w0 := w) (kInt_E _) hv HB1.out.size) hba)
    have AP := Aside0.mk (Apart.new V1.out hv)
    have hx2 := blk_below hx1 hb2
    have HX2 := Aside0.mk (blk_below hx2 hba)
    have HY2 := Aside0.mk (blk_new w2 (.cells #[.int .i16 k.wd, .int .i32 k.ld, .slice AG k.hs.length cG] 54))
    have HN1 := Aside0.mk (Apart.ne hv (g := g1) (.inl (blk_lt hx1)))
    have HN2 := Aside0.mk (Apart.ne hv (g := w2.heap.size) (.inr (Nat.le_refl _)))
    have hlt := blk_lt hx2
    have hne := Nat.ne_of_lt hlt
    have hne' := Nat.ne_of_gt hlt
    clear hb2 hx1 hv hba V1
    have c0 := blk_cell hx2 0
    have f0 := blk_frozen hx2 0
    have c1 := blk_cell hx2 1
    have f1 := blk_frozen hx2 1
    have c2 := blk_cell hx2 2
    have f2 := blk_frozen hx2 2
    simp only [List.getElem?_toArray, List.getElem?_cons_zero, List.getElem?_cons_succ] at c0 c1 c2
    clear f0 f1 f2 hx2
    simp only [Cs.val]
    go_wp2_with fail
    clear hlt hne hne' c0 c1 c2
    generalize World.alloc w2 _ = W2 at HX2 HY2 HB2 V2 G2 ⊢
    generalize w2.heap.size = g2 at HY2 HN2 ⊢
    refine (eqCase_c k k AG AV cG cV W2 (Own.reads G2.out) (Own.reads V2.out)).mono ?_; rintro _ w3 ⟨rfl, hb3⟩
    have hx3 := blk_below HX2.out hb3
    have hy3 := blk_below HY2.out hb3
    have HB3 := Aside0.mk (bstep HB2.out hb3)
    have V3 := Aside0.mk (Own.below V2.out hb3)
    have G3 := Aside0.mk (Own.below G2.out hb3)
    have HX3 := Aside0.mk hx3
    have HY3 := Aside0.mk hy3
    have hkk : decide (k = k) = true := decide_eq_true rfl
    clear hb3 HB2 V2 G2 HX2 HY2
    have d0 := blk_cell hy3 0
    have h0 := blk_frozen hy3 0
    have d1 := blk_cell hy3 1
    have h1 := blk_frozen hy3 1
    have d2 := blk_cell hy3 2
    have h2 := blk_frozen hy3 2
    simp only [List.getElem?_toArray, List.getElem?_cons_zero, List.getElem?_cons_succ] at d0 d1 d2
    clear h0 h1 h2 hx3 hy3
    go_wp2_with fail
    refine (markCase_c k AG cG (1) w _ G3.out (by omega) (by omega) HLN.out).mono ?_; rintro _ w4 ⟨rfl, ho, hg⟩
    have HB4 := Aside0.mk (Own.mark G3.out HB3.out hg)
    have V4 := Aside0.mk (Own.grown V3.out hg AP.out)
    have G4 := Aside0.mk ho
    have HX4 := Aside0.mk (blk_grown hg HX3.out HN1.out)
    have HY4 := Aside0.mk (blk_grown hg HY3.out HN2.out)
    have hy4 := HY4.out
    clear ho hg d0 d1 d2 HB3 V3 G3 HX3 HY3
    have d0 := blk_cell hy4 0
    have h0 := blk_frozen hy4 0
    have d1 := blk_cell hy4 1
    have h1 := blk_frozen hy4 1
    have d2 := blk_cell hy4 2
    have h2 := blk_frozen hy4 2
    simp only [List.getElem?_toArray, List.getElem?_cons_zero, List.getElem?_cons_succ] at d0 d1 d2
    clear h0 h1 h2 hy4
    go_wp2_with fail
    refine (heldCase_c k.wd k.ld AG cG k.hs.length 1 _ (heldCI G4.out) (by omega) (by omega) HLN.out).mono ?_; rintro _ w5 ⟨rfl, hb5⟩
    have HB5 := Aside0.mk (bstep HB4.out hb5)
    have V5 := Aside0.mk (Own.below V4.out hb5)
    have G5 := Aside0.mk (Own.below G4.out hb5)
    have HX5 := Aside0.mk (blk_below HX4.out hb5)
    have HY5 := Aside0.mk (blk_below HY4.out hb5)
    have hng : ¬ ((1 : Int) + (k.hs.length : Int) < 0) := by omega
    clear hb5 HB4 V4 G4 HX4 HY4 d0 d1 d2
    go_wp2_with fail
    refine (HIM.out _ (HT.out.below HB5.out)).mono ?_; rintro _ w6 ⟨_, rfl, hb6, AH, cH, rfl, hcH, hv⟩
    have hba : Below w6.heap.size w6 (w6.alloc (.cells #[.int .i16 k.wd, .int .i32 k.ld, .slice AH k.hs.length cH] 54)) := balloc (Below.refl _ _) _
    have HB6 := Aside0.mk (bstep (bstep HB5.out hb6) hba)
    have V6 := Aside0.mk (Own.below (Own.below V5.out hb6) hba)
    have G6 := Aside0.mk (Own.below (Own.below G5.out hb6) hba)
    have H6 := Aside0.mk (Own.below (Own.mk' (w0 := w) (kInt_E _) hv HB5.out.size) hba)
    have hx6 := blk_below HX5.out hb6
    have HY6 := Aside0.mk (blk_below (blk_below HY5.out hb6) hba)
    have hlt := blk_lt hx6
    have hne := Nat.ne_of_lt hlt
    have hne' := Nat.ne_of_gt hlt
    clear hb6 hv hba HB5 V5 G5 HX5 HY5
    have c0 := blk_cell hx6 0
    have f0 := blk_frozen hx6 0
    have c1 := blk_cell hx6 1
    have f1 := blk_frozen hx6 1
    have c2 := blk_cell hx6 2
    have f2 := blk_frozen hx6 2
    simp only [List.getElem?_toArray, List.getElem?_cons_zero, List.getElem?_cons_succ] at c0 c1 c2
    clear f0 f1 f2 hx6
    simp only [Cs.val]
    go_wp2_with fail
    clear hlt hne hne' c0 c1 c2
    generalize World.alloc w6 _ = W6 at HY6 HB6 V6 G6 H6 ⊢
    refine (eqCase_c k k AH AV cH cV W6 (Own.reads H6.out) (Own.reads V6.out)).mono ?_; rintro _ w7 ⟨rfl, hb7⟩
    have hy7 := blk_below HY6.out hb7
    have HB7 := Aside0.mk (bstep HB6.out hb7)
    have G7 := Aside0.mk (Own.below G6.out hb7)
    clear hb7 HB6 V6 G6 H6 HY6
    have d0 := blk_cell hy7 0
    have h0 := blk_frozen hy7 0
    have d1 := blk_cell hy7 1
    have h1 := blk_frozen hy7 1
    have d2 := blk_cell hy7 2
    have h2 := blk_frozen hy7 2
    simp only [List.getElem?_toArray, List.getElem?_cons_zero, List.getElem?_cons_succ] at d0 d1 d2
    clear h0 h1 h2 hy7
    go_wp2_with fail
    refine (heldCase_c k.wd k.ld AG cG k.hs.length 1 _ (heldCI G7.out) (by omega) (by omega) HLN.out).mono ?_; rintro _ w8 ⟨rfl, hb8⟩
    go_wp2
    go_ret
    exact ⟨rfl, bstep HB7.out hb8⟩
end Go.Proofs.YtgibcacciedobaaDoor
