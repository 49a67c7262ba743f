/- The law FnExactReadBooks returns true of every input. -/
import Derived.Test.YtgibcacciedobaaDoorTxRA
import Derived.Test.YtgibcacciedobaaDoorMarkB
import Derived.Test.YtgibcacciedobaaDoorToS
import Derived.Test.YtgibcacciedobaaDoorEq
namespace Go.Proofs.YtgibcacciedobaaDoor
open Go.RowKit Go.Proofs.YtgibcacciedobaaDoorW.PrintWords Go.Proofs.YtgibcacciedobaaDoorW.PrintMore
set_option linter.unusedVariables false
set_option linter.unusedSimpArgs false
set_option maxRecDepth 100000

set_option maxHeartbeats 8000000 in
theorem FnExactReadBooks_c (s0 : ByteArray) (hs0 : s0.size ≤ maxLen) (w : World) (ht : Txt w) :
    Calls Tryd.prog 6 #[.string s0] w (Ret w (.bool true)) := by
  have HT := Aside0.mk ht
  clear ht
  obtain ⟨l, rfl⟩ : ∃ l : Bs, s0 = bS l := ⟨_, (bS_of s0).symm⟩
  have hsz : (bS l).size = l.length := bS_size l
  have HB0 := Aside0.mk (Below.refl w.heap.size w)
  by_cases hlt0 : 1048576 < l.length
  · have hlti0 : (1048576 : Int) < (l.length : Int) := by omega
    go_enter Tryd.func6, Tryd.ntmps6
    go_wp2_with fail
    go_ret
    exact ⟨rfl, Below.refl _ _⟩
  · have hle0 : ¬ (1048576 : Int) < (l.length : Int) := by omega
    have hl : l.length ≤ 1048576 := by omega
    have HRL := Aside0.mk (show (lsV l).length ≤ 2097152 from Nat.le_trans (lsV_len l) (by decide))
    have HSP := Aside0.mk (fun  (W : World)  => specReadBooks_c l hl W)
    have HIM := Aside0.mk (fun  (W : World)  (ht : Txt W) => ReadBooks_c l hl W ht)
    obtain ⟨R, hR⟩ : ∃ R, lsV l = R := ⟨_, rfl⟩
    rw [hR] at HSP HIM HRL
    clear hR
    obtain ⟨e0, he0⟩ : ∃ e, lsE l = e := ⟨_, rfl⟩
    rw [he0] at HSP HIM
    clear he0
    have hRL := HRL.out
    go_enter Tryd.func6, Tryd.ntmps6
    go_wp2_with fail
    refine (HSP.out  _ ).mono ?_; rintro _ w1_ ⟨v', rfl, hb, v, rfl, hv⟩
    have HB1 := Aside0.mk (bstep HB0.out hb)
    have V := Aside0.mk (Own.mk' (w0 := w) kBk_E hv HB0.out.size)
    clear hb hv
    obtain ⟨XV, dV, rfl, ldV⟩ := V.out.open
    go_wp2_with fail
    refine (HIM.out  _ (HT.out.below HB1.out)).mono ?_; rintro _ w2_ ⟨v', rfl, hb, v, rfl, hv⟩
    have HB2 := Aside0.mk (bstep HB1.out hb)
    have V_2 := Aside0.mk (Own.below V.out hb)
    have G := Aside0.mk (Own.mk' (w0 := w) kBk_E hv HB1.out.size)
    have AP_V_G := Aside0.mk (Apart.new V.out hv)
    clear hb hv
    obtain ⟨XG, dG, rfl, ldG⟩ := G.out.open
    go_wp2_with fail
    refine (eqBookS_c XG XV dG dV R R _ G.out.reads V_2.out.reads).mono ?_; rintro _ w3_ ⟨rfl, hb⟩
    have HB3 := Aside0.mk (bstep HB2.out hb)
    have V_3 := Aside0.mk (Own.below V_2.out hb)
    have G_3 := Aside0.mk (Own.below G.out hb)
    clear hb
    go_wp2_with fail
    refine (markBookS_c XG dG R (1) w _ G_3.out (by omega) (by omega) (by first | exact hRL | omega)).mono ?_; rintro _ w4_ ⟨rfl, ho, hg⟩
    have HB4 := Aside0.mk (Own.mark G_3.out HB3.out hg)
    have V_4 := Aside0.mk (Own.grown V_3.out hg AP_V_G.out)
    have G_4 := Aside0.mk ho
    clear ho hg
    go_wp2_with fail
    refine (heldBookS_c XG dG R.length 1 _ (heldCB G_4.out) (by omega) (by omega) hRL).mono ?_; rintro _ w5_ ⟨rfl, rfl⟩
    go_wp2_with fail
    refine (HIM.out  _ (HT.out.below HB4.out)).mono ?_; rintro _ w5_ ⟨v', rfl, hb, v, rfl, hv⟩
    have HB5 := Aside0.mk (bstep HB4.out hb)
    have V_5 := Aside0.mk (Own.below V_4.out hb)
    have G_5 := Aside0.mk (Own.below G_4.out hb)
    have H := Aside0.mk (Own.mk' (w0 := w) kBk_E hv HB4.out.size)
    clear hb hv
    obtain ⟨XH, dH, rfl, ldH⟩ := H.out.open
    go_wp2_with fail
    refine (eqBookS_c XH XV dH dV R R _ H.out.reads V_5.out.reads).mono ?_; rintro _ w6_ ⟨rfl, hb⟩
    have HB6 := Aside0.mk (bstep HB5.out hb)
    have V_6 := Aside0.mk (Own.below V_5.out hb)
    have G_6 := Aside0.mk (Own.below G_5.out hb)
    have H_6 := Aside0.mk (Own.below H.out hb)
    clear hb
    go_wp2_with fail
    refine (heldBookS_c XG dG R.length 1 _ (heldCB G_6.out) (by omega) (by omega) hRL).mono ?_; rintro _ w7_ ⟨rfl, rfl⟩
    go_wp2_with fail
    go_ret
    exact ⟨rfl, HB6.out⟩
end Go.Proofs.YtgibcacciedobaaDoor
