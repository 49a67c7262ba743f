/- Comparing two books by an order: the program's CompareBy and the reference's. -/
import Derived.Test.YtgdhopcbiekhhaaOrder
import Derived.Test.YtgdhopcbiekhhaaCmpU
import Derived.Test.YtgdhopcbiekhhaaRunsV
import Derived.StillTailTactics
import Derived.Still
namespace Go.Proofs.Ytgdhopcbiekhhaa
open Go.RowKit Go.Proofs.YtgdhopcbiekhhaaW.PrintWords Go.Proofs.YtgdhopcbiekhhaaW.PrintMore
set_option linter.unusedVariables false
set_option linter.unusedSimpArgs false
set_option maxRecDepth 100000

theorem ordOk_of {L : List Int} (hk : ∀ x ∈ L, I8 x) (h : vOrd L = true) : OrdOk L := by
  intro x hx
  refine ⟨hk x hx, fun e => ?_⟩
  obtain ⟨i, hi, rfl⟩ := List.mem_iff_getElem.1 hx
  unfold vOrd at h
  simp only [Bool.and_eq_true, List.all_eq_true] at h
  have := h.2 i (List.mem_range.2 hi)
  rw [ordAt_of (List.getElem?_eq_getElem hi)] at this
  simp only [Bool.and_eq_true] at this
  have h1 := inR_iff.1 this.1
  rw [e] at h1
  exact absurd h1.1 (by decide)
def okBy (L : List Int) (a b : Bk) : Bool := vOrd L && (vBook a && vBook b)
def cbV (L : List Int) (a b : Bk) : Int := if okBy L a b = true then cmpBy L a b else 0
def cbE (L : List Int) (a b : Bk) : Int := if okBy L a b = true then 0 else 1
theorem cb_bad {L : List Int} {a b : Bk} (h : okBy L a b = false) : cbV L a b = 0 ∧ cbE L a b = 1 := by unfold cbV cbE; rw [h]; exact ⟨rfl, rfl⟩
theorem cb_ok {L : List Int} {a b : Bk} (h : okBy L a b = true) : cbV L a b = cmpBy L a b ∧ cbE L a b = 0 := by unfold cbV cbE; rw [h]; exact ⟨rfl, rfl⟩
set_option maxHeartbeats 4000000 in
theorem CompareBy_c (A : Option Addr) (c : Nat) (L : List Int) (a b : Bk) (w : World) (hL : (Kd.int .i8).C w A L.length L) (hk : ∀ x ∈ L, I8 x) :
    Calls Try.prog 50 #[.slice A L.length c, a.val, b.val] w (Ret w (.tuple #[.int .i64 (cbV L a b), .int .i64 (cbE L a b)])) := by
  obtain ⟨hbw, ha, hb⟩ := box_two w a b _ (Below.refl _ _)
  have HX := Aside0.mk (fun W h => compareBy_c A c L a b W h hk)
  have HVO := Aside0.mk (fun W h => ValidOrder_c A c L W h hk)
  have HVA := Aside0.mk (fun W => ValidBook_c a W)
  have HVB := Aside0.mk (fun W => ValidBook_c b W)
  have HBW := Aside0.mk hbw
  have HL := Aside0.mk hL
  have HAT := Aside0.mk ha
  have HBT := Aside0.mk hb
  clear hbw hL hk ha hb
  simp only [Bk.val] at HX HVA HVB ⊢
  cases h1 : vOrd L
  · have HR := Aside0.mk (cb_bad (L := L) (a := a) (b := b) (by unfold okBy; rw [h1]; rfl))
    rw [h1] at HVO
    clear h1
    go_enter Try.func50, Try.ntmps50
    go_wp2_with fail
    refine (HVO.out _ (Kd.C_below HL.out HBW.out)).mono ?_; rintro _ w1 ⟨rfl, hb1⟩
    have HB1 := Aside0.mk (bstep HBW.out hb1)
    clear hb1
    go_wp2_with fail
    go_ret2
    exact ⟨ret_two HR.out.1.symm HR.out.2.symm, HB1.out⟩
  · rw [h1] at HVO
    cases h2 : vBook a
    · have HR := Aside0.mk (cb_bad (L := L) (a := a) (b := b) (by unfold okBy; rw [h1, h2]; rfl))
      rw [h2] at HVA
      clear h1 h2
      go_enter Try.func50, Try.ntmps50
      go_wp2_with fail
      refine (HVO.out _ (Kd.C_below HL.out HBW.out)).mono ?_; rintro _ w1 ⟨rfl, hb1⟩
      have HB1 := Aside0.mk (bstep HBW.out hb1)
      obtain ⟨p0, p1, p2, p3, p4, p5, p6, p7⟩ := HAT.out.below hb1
      clear hb1
      go_wp2_with fail
      refine (HVA.out _).mono ?_; rintro _ w2 ⟨rfl, hb2⟩
      have HB2 := Aside0.mk (bstep HB1.out hb2)
      clear hb2 p0 p1 p2 p3 p4 p5 p6 p7
      go_wp2_with fail
      go_ret2
      exact ⟨ret_two HR.out.1.symm HR.out.2.symm, HB2.out⟩
    · rw [h2] at HVA
      cases h3 : vBook b
      · have HR := Aside0.mk (cb_bad (L := L) (a := a) (b := b) (by unfold okBy; rw [h1, h2, h3]; rfl))
        rw [h3] at HVB
        clear h1 h2 h3
        go_enter Try.func50, Try.ntmps50
        go_wp2_with fail
        refine (HVO.out _ (Kd.C_below HL.out HBW.out)).mono ?_; rintro _ w1 ⟨rfl, hb1⟩
        have HB1 := Aside0.mk (bstep HBW.out hb1)
        have HBT1 := Aside0.mk (HBT.out.below hb1)
        obtain ⟨p0, p1, p2, p3, p4, p5, p6, p7⟩ := HAT.out.below hb1
        clear hb1
        go_wp2_with fail
        refine (HVA.out _).mono ?_; rintro _ w2 ⟨rfl, hb2⟩
        have HB2 := Aside0.mk (bstep HB1.out hb2)
        obtain ⟨q0, q1, q2, q3, q4, q5, q6, q7⟩ := HBT1.out.below hb2
        clear hb2 p0 p1 p2 p3 p4 p5 p6 p7
        go_wp2_with fail
        refine (HVB.out _).mono ?_; rintro _ w3 ⟨rfl, hb3⟩
        have HB3 := Aside0.mk (bstep HB2.out hb3)
        clear hb3 q0 q1 q2 q3 q4 q5 q6 q7
        go_wp2_with fail
        go_ret2
        exact ⟨ret_two HR.out.1.symm HR.out.2.symm, HB3.out⟩
      · have HR := Aside0.mk (cb_ok (L := L) (a := a) (b := b) (by unfold okBy; rw [h1, h2, h3]; rfl))
        rw [h3] at HVB
        clear h1 h2 h3
        go_enter Try.func50, Try.ntmps50
        go_wp2_with fail
        refine (HVO.out _ (Kd.C_below HL.out HBW.out)).mono ?_; rintro _ w1 ⟨rfl, hb1⟩
        have HB1 := Aside0.mk (bstep HBW.out hb1)
        have HBT1 := Aside0.mk (HBT.out.below hb1)
        have HAT1 := Aside0.mk (HAT.out.below hb1)
        obtain ⟨p0, p1, p2, p3, p4, p5, p6, p7⟩ := HAT.out.below hb1
        clear hb1
        go_wp2_with fail
        refine (HVA.out _).mono ?_; rintro _ w2 ⟨rfl, hb2⟩
        have HB2 := Aside0.mk (bstep HB1.out hb2)
        have HBT2 := Aside0.mk (HBT1.out.below hb2)
        have HAT2 := Aside0.mk (HAT1.out.below hb2)
        obtain ⟨q0, q1, q2, q3, q4, q5, q6, q7⟩ := HBT1.out.below hb2
        clear hb2 p0 p1 p2 p3 p4 p5 p6 p7
        go_wp2_with fail
        refine (HVB.out _).mono ?_; rintro _ w3 ⟨rfl, hb3⟩
        have HB3 := Aside0.mk (bstep HB2.out hb3)
        obtain ⟨p0, p1, p2, p3, p4, p5, p6, p7⟩ := HAT2.out.below hb3
        clear q0 q1 q2 q3 q4 q5 q6 q7
        obtain ⟨q0, q1, q2, q3, q4, q5, q6, q7⟩ := HBT2.out.below hb3
        clear hb3
        go_wp2_with fail
        refine (HX.out _ (Kd.C_below HL.out HB3.out)).mono ?_; rintro _ w4 ⟨rfl, hb4⟩
        have HB4 := Aside0.mk (bstep HB3.out hb4)
        clear hb4 p0 p1 p2 p3 p4 p5 p6 p7 q0 q1 q2 q3 q4 q5 q6 q7
        go_wp2_with fail
        go_ret2
        exact ⟨ret_two HR.out.1.symm HR.out.2.symm, HB4.out⟩
set_option maxHeartbeats 4000000 in
theorem specCompareBy_c (A : Option Addr) (c : Nat) (L : List Int) (a b : Bk) (hoa : a.ok) (hob : b.ok) (w : World) (hL : (Kd.int .i8).C w A L.length L) (hk : ∀ x ∈ L, I8 x) :
    Calls Try.prog 49 #[.slice A L.length c, a.val, b.val] w (Ret w (.tuple #[.int .i64 (cbV L a b), .int .i64 (cbE L a b)])) := by
  obtain ⟨hbw, ha, hb⟩ := box_two w a b _ (Below.refl _ _)
  have HX := Aside0.mk (fun W h ho u v p q => l01Compare_c A c L u v a b hoa hob W h ho p q)
  have HVO := Aside0.mk (fun W h => l01Order_c A c L W h hk)
  have HVA := Aside0.mk (fun p W h => l01Book_c a hoa p W h)
  have HVB := Aside0.mk (fun p W h => l01Book_c b hob p W h)
  have HKK := Aside0.mk hk
  have HBW := Aside0.mk hbw
  have HL := Aside0.mk hL
  have HAT := Aside0.mk ha
  have HBT := Aside0.mk hb
  clear hbw hL hk ha hb hoa hob
  simp only [Bk.val]
  cases h1 : vOrd L
  · have HR := Aside0.mk (cb_bad (L := L) (a := a) (b := b) (by unfold okBy; rw [h1]; rfl))
    rw [h1] at HVO
    clear h1
    go_enter Try.func49, Try.ntmps49
    go_wp2_with fail
    refine (HVO.out _ (Kd.C_below HL.out HBW.out)).mono ?_; rintro _ w1 ⟨rfl, hb1⟩
    have HB1 := Aside0.mk (bstep HBW.out hb1)
    clear hb1
    go_wp2_with fail
    go_ret2
    exact ⟨ret_two HR.out.1.symm HR.out.2.symm, HB1.out⟩
  · rw [h1] at HVO
    have HOK := Aside0.mk (ordOk_of HKK.out h1)
    cases h2 : vBook a
    · have HR := Aside0.mk (cb_bad (L := L) (a := a) (b := b) (by unfold okBy; rw [h1, h2]; rfl))
      rw [h2] at HVA
      clear h1 h2
      go_enter Try.func49, Try.ntmps49
      go_wp2_with fail
      refine (HVO.out _ (Kd.C_below HL.out HBW.out)).mono ?_; rintro _ w1 ⟨rfl, hb1⟩
      have HB1 := Aside0.mk (bstep HBW.out hb1)
      have HAT1 := Aside0.mk (HAT.out.below hb1)
      clear hb1
      go_wp2_with fail
      refine (HVA.out _ _ HAT1.out).mono ?_; rintro _ w2 ⟨rfl, hb2⟩
      have HB2 := Aside0.mk (bstep HB1.out hb2)
      clear hb2
      go_wp2_with fail
      go_ret2
      exact ⟨ret_two HR.out.1.symm HR.out.2.symm, HB2.out⟩
    · rw [h2] at HVA
      cases h3 : vBook b
      · have HR := Aside0.mk (cb_bad (L := L) (a := a) (b := b) (by unfold okBy; rw [h1, h2, h3]; rfl))
        rw [h3] at HVB
        clear h1 h2 h3
        go_enter Try.func49, Try.ntmps49
        go_wp2_with fail
        refine (HVO.out _ (Kd.C_below HL.out HBW.out)).mono ?_; rintro _ w1 ⟨rfl, hb1⟩
        have HB1 := Aside0.mk (bstep HBW.out hb1)
        have HBT1 := Aside0.mk (HBT.out.below hb1)
        have HAT1 := Aside0.mk (HAT.out.below hb1)
        clear hb1
        go_wp2_with fail
        refine (HVA.out _ _ HAT1.out).mono ?_; rintro _ w2 ⟨rfl, hb2⟩
        have HB2 := Aside0.mk (bstep HB1.out hb2)
        have HBT2 := Aside0.mk (HBT1.out.below hb2)
        clear hb2
        go_wp2_with fail
        refine (HVB.out _ _ HBT2.out).mono ?_; rintro _ w3 ⟨rfl, hb3⟩
        have HB3 := Aside0.mk (bstep HB2.out hb3)
        clear hb3
        go_wp2_with fail
        go_ret2
        exact ⟨ret_two HR.out.1.symm HR.out.2.symm, HB3.out⟩
      · have HR := Aside0.mk (cb_ok (L := L) (a := a) (b := b) (by unfold okBy; rw [h1, h2, h3]; rfl))
        rw [h3] at HVB
        clear h1 h2 h3
        go_enter Try.func49, Try.ntmps49
        go_wp2_with fail
        refine (HVO.out _ (Kd.C_below HL.out HBW.out)).mono ?_; rintro _ w1 ⟨rfl, hb1⟩
        have HB1 := Aside0.mk (bstep HBW.out hb1)
        have HBT1 := Aside0.mk (HBT.out.below hb1)
        have HAT1 := Aside0.mk (HAT.out.below hb1)
        clear hb1
        go_wp2_with fail
        refine (HVA.out _ _ HAT1.out).mono ?_; rintro _ w2 ⟨rfl, hb2⟩
        have HB2 := Aside0.mk (bstep HB1.out hb2)
        have HBT2 := Aside0.mk (HBT1.out.below hb2)
        have HAT2 := Aside0.mk (HAT1.out.below hb2)
        clear hb2
        go_wp2_with fail
        refine (HVB.out _ _ HBT2.out).mono ?_; rintro _ w3 ⟨rfl, hb3⟩
        have HB3 := Aside0.mk (bstep HB2.out hb3)
        have HBT3 := Aside0.mk (HBT2.out.below hb3)
        have HAT3 := Aside0.mk (HAT2.out.below hb3)
        clear hb3
        go_wp2_with fail
        refine (HX.out _ (Kd.C_below HL.out HB3.out) HOK.out _ _ HAT3.out HBT3.out).mono ?_; rintro _ w4 ⟨rfl, hb4⟩
        have HB4 := Aside0.mk (bstep HB3.out hb4)
        clear hb4
        go_wp2_with fail
        go_ret2
        exact ⟨ret_two HR.out.1.symm HR.out.2.symm, HB4.out⟩
end Go.Proofs.Ytgdhopcbiekhhaa
