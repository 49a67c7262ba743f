/- PlaceFor: the program's and the reference's. -/
import Derived.Test.YtgdhopcbiekhhaaSCode
import Derived.Test.YtgdhopcbiekhhaaCmpU
import Derived.StillTailTactics
import Derived.Still
namespace Go.Proofs.Ytgdhopcbiekhhaa
open Go.RowKit Go.Proofs.YtgdhopcbiekhhaaW.PrintWords Go.Proofs.YtgdhopcbiekhhaaW.PrintMore
set_option linter.unusedVariables false
set_option linter.unusedSimpArgs false
set_option maxRecDepth 100000

theorem ltU_anti (x b : Bk) : decide (0 < cmpU x b) = ltU b x := by
  unfold ltU
  have := (cmpBy_pre usualL).anti x b
  rw [decide_eq_decide]
  unfold cmpU
  omega
set_option maxHeartbeats 2000000 in
theorem placeClo_c (b x : Bk) (g : Nat) (w : World) (hb : BkAt w ⟨g, 0, none⟩ b) : Calls Try.prog 125 #[x.val, .pointer (some ⟨g, 0, none⟩)] w (Ret w (.bool (ltU b x))) := by
  have HC := Aside0.mk (fun W => compare_c x b W)
  have HE := Aside0.mk (ltU_anti x b)
  have hg : g < w.heap.size := hb.lt
  obtain ⟨q0, q1, q2, q3, q4, q5, q6, q7⟩ := hb.below (balloc (Below.refl _ _) (.cells #[.int .i16 x.c, .int .u8 x.m0, .int .u8 x.m1, .int .u8 x.m2, .int .i16 x.v, .int .i16 x.wd, .int .i16 x.h, .int .i16 x.wt] 34))
  obtain ⟨p0, p1, p2, p3, p4, p5, p6, p7⟩ := BkAt.box w x 34
  have HB := Aside0.mk (balloc (Below.refl w.heap.size w) (.cells #[.int .i16 x.c, .int .u8 x.m0, .int .u8 x.m1, .int .u8 x.m2, .int .i16 x.v, .int .i16 x.wd, .int .i16 x.h, .int .i16 x.wt] 34))
  clear hb
  simp only [Bk.val] at HC ⊢
  go_enter Try.func125, Try.ntmps125
  go_wp2_with fail
  refine (HC.out _).mono ?_; rintro _ w1 ⟨rfl, hb1⟩
  have HB1 := Aside0.mk (bstep HB.out hb1)
  clear hb1 p0 p1 p2 p3 p4 p5 p6 p7 q0 q1 q2 q3 q4 q5 q6 q7
  go_wp2_with fail
  go_ret
  exact ⟨ret_bool HE.out, HB1.out⟩
def pfC (L : List Bk) (b : Bk) : Int := if vBook b = true then (if sCode L = 0 then (if L.length = 60 then 3 else 0) else sCode L) else 1
def pfV (L : List Bk) (b : Bk) : Int := if pfC L b = 0 then (placeOf b L : Nat) else 0
theorem pf_bad {L : List Bk} {b : Bk} {e : Int} (h : pfC L b = e) (he : e ≠ 0) : pfV L b = 0 ∧ pfC L b = e := ⟨by unfold pfV; rw [h, if_neg he], h⟩
theorem pf_ok {L : List Bk} {b : Bk} (h : pfC L b = 0) : pfV L b = (placeOf b L : Nat) ∧ pfC L b = 0 := ⟨by unfold pfV; rw [h, if_pos rfl], h⟩
theorem sCode_zero {L : List Bk} : sCode L = 0 ↔ vBooks L = true ∧ isS L = true := by
  unfold sCode
  by_cases h1 : vBooks L = true <;> by_cases h2 : isS L = true <;> simp [h1, h2]
set_option maxHeartbeats 4000000 in
theorem PlaceFor_c (A : Option Addr) (c : Nat) (L : List Bk) (b : Bk) (w : World) (hL : kBk.C w A L.length L) :
    Calls Try.prog 70 #[.slice A L.length c, b.val] w (Ret w (.tuple #[.int .i64 (pfV L b), .int .i64 (pfC L b)])) := by
  have hm := Kd.C_max hL
  have hbx := BkAt.box w b 34
  have HBX := Aside0.mk hbx
  have HB := Aside0.mk (balloc (Below.refl w.heap.size w) (.cells #[.int .i16 b.c, .int .u8 b.m0, .int .u8 b.m1, .int .u8 b.m2, .int .i16 b.v, .int .i16 b.wd, .int .i16 b.h, .int .i16 b.wt] 34))
  have HL := Aside0.mk hL
  have HV := Aside0.mk (fun W => ValidBook_c b W)
  have HS := Aside0.mk (fun W h => sorted1_c A c L W h)
  obtain ⟨p0, p1, p2, p3, p4, p5, p6, p7⟩ := hbx
  clear hL
  simp only [Bk.val] at HV ⊢
  cases h1 : vBook b
  · have HR := Aside0.mk (pf_bad (L := L) (b := b) (e := 1) (by unfold pfC; rw [h1]; rfl) (by decide))
    rw [h1] at HV
    clear h1
    go_enter Try.func70, Try.ntmps70
    go_wp2_with fail
    refine (HV.out _).mono ?_; rintro _ w1 ⟨rfl, hb1⟩
    have HB1 := Aside0.mk (bstep HB.out hb1)
    clear hb1 p0 p1 p2 p3 p4 p5 p6 p7
    go_wp2_with fail
    go_ret2
    exact ⟨ret_two HR.out.1.symm HR.out.2.symm, HB1.out⟩
  · rw [h1] at HV
    by_cases h2 : sCode L = 0
    · by_cases h3 : L.length = 60
      · have HR := Aside0.mk (pf_bad (L := L) (b := b) (e := 3) (by unfold pfC; rw [h1, if_pos rfl, if_pos h2, if_pos h3]) (by decide))
        have hq : ((L.length : Int) == 60) = true := by simp [h3]
        rw [h2] at HS
        clear h1 h2 h3
        go_enter Try.func70, Try.ntmps70
        go_wp2_with fail
        refine (HV.out _).mono ?_; rintro _ w1 ⟨rfl, hb1⟩
        have HB1 := Aside0.mk (bstep HB.out hb1)
        clear hb1 p0 p1 p2 p3 p4 p5 p6 p7
        go_wp2_with fail
        refine (HS.out _ (Kd.C_below HL.out HB1.out)).mono ?_; rintro _ w2 ⟨rfl, hb2⟩
        have HB2 := Aside0.mk (bstep (balloc HB1.out _) hb2)
        clear hb2
        go_wp2_with fail
        go_ret2
        exact ⟨ret_two HR.out.1.symm HR.out.2.symm, HB2.out⟩
      · have HR := Aside0.mk (pf_ok (L := L) (b := b) (by unfold pfC; rw [h1, if_pos rfl, if_pos h2, if_neg h3]))
        have hq : ((L.length : Int) == 60) = false := by simpa using (show ¬ (L.length : Int) = 60 by omega)
        rw [h2] at HS
        clear h1 h2 h3
        go_enter Try.func70, Try.ntmps70
        go_wp2_with fail
        refine (HV.out _).mono ?_; rintro _ w1 ⟨rfl, hb1⟩
        have HB1 := Aside0.mk (bstep HB.out hb1)
        have HBX1 := Aside0.mk (HBX.out.below hb1)
        clear hb1 p0 p1 p2 p3 p4 p5 p6 p7
        go_wp2_with fail
        refine (HS.out _ (Kd.C_below HL.out HB1.out)).mono ?_; rintro _ w2 ⟨rfl, hb2⟩
        have HB2 := Aside0.mk (bstep (balloc HB1.out _) hb2)
        have HBX2 := Aside0.mk ((HBX1.out.below (balloc (Below.refl _ _) _)).below hb2)
        clear hb2
        go_wp2_with fail
        refine (firstOf_c A c L 125 #[.pointer (some ⟨w.heap.size, 0, none⟩)] (ltU b) w2 (Kd.C_below HL.out HB2.out) ⟨_, Try.func125, rfl, rfl⟩ (fun W hW x hx => placeClo_c b x _ W (HBX2.out.below hW))).mono ?_; rintro _ w3 ⟨rfl, hb3⟩
        have HB3 := Aside0.mk (bstep HB2.out hb3)
        clear hb3
        go_wp2_with fail
        go_ret2
        exact ⟨ret_two HR.out.1.symm HR.out.2.symm, HB3.out⟩
    · have HR := Aside0.mk (pf_bad (L := L) (b := b) (e := sCode L) (by unfold pfC; rw [h1, if_pos rfl, if_neg h2]) h2)
      have hq : (sCode L != 0) = true := by simpa using h2
      clear h1 h2
      go_enter Try.func70, Try.ntmps70
      go_wp2_with fail
      refine (HV.out _).mono ?_; rintro _ w1 ⟨rfl, hb1⟩
      have HB1 := Aside0.mk (bstep HB.out hb1)
      clear hb1 p0 p1 p2 p3 p4 p5 p6 p7
      go_wp2_with fail
      refine (HS.out _ (Kd.C_below HL.out HB1.out)).mono ?_; rintro _ w2 ⟨rfl, hb2⟩
      have HB2 := Aside0.mk (bstep (balloc HB1.out _) hb2)
      clear hb2
      go_wp2_with fail
      go_ret2
      exact ⟨ret_two HR.out.1.symm HR.out.2.symm, HB2.out⟩
theorem drop_cons {α : Type} {L : List α} {j : Nat} {x : α} (h : L[j]? = some x) : L.drop j = x :: L.drop (j + 1) := by
  obtain ⟨hl, he⟩ := List.getElem?_eq_some_iff.1 h
  rw [List.drop_eq_getElem_cons hl, he]
set_option maxHeartbeats 4000000 in
theorem l01Place_c (A : Option Addr) (c : Nat) (L : List Bk) (b : Bk) (pb : Addr) (w : World) (hL : kBk.C w A L.length L) (hok : OkL L) (hob : b.ok) (hb : BkAt w pb b) (hu : Srt.Up ltU L) :
    Calls Try.prog 123 #[.slice A L.length c, .pointer (some pb)] w (Ret w (.int .i64 (placeOf b L : Nat))) := by
  have hm := Kd.C_max hL
  have HL := Aside0.mk hL
  have HO := Aside0.mk hok
  have HOB := Aside0.mk hob
  have HBP := Aside0.mk hb
  have HU := Aside0.mk hu
  clear hL hok hob hb hu
  go_enter Try.func123, Try.ntmps123
  go_wp2
  go_loopg [5] L.length (fun gk v wr => ∃ k : Nat, v = .int .i64 k ∧ Aside0 (gk = k ∧ k ≤ L.length ∧ ∀ x, x ∈ L.drop k → ltU b x = true) ∧ Aside0 (Below w.heap.size w wr))
  case atStart => exact ⟨L.length, rfl, ⟨rfl, Nat.le_refl _, fun x hx => by simp at hx⟩, ⟨Below.refl _ _⟩⟩
  case round =>
    obtain ⟨k, rfl, HK, HB⟩ := hrel
    by_cases h0 : k = 0
    · have hq : ¬ (0 : Int) < (k : Int) := by omega
      have HR := Aside0.mk (placeOf_eq HU.out HK.out.2.1 HK.out.2.2 (.inl h0))
      clear h0
      go_wp2
      go_ret
      exact ⟨ret_int (by rw [HR.out]), HB.out⟩
    · obtain ⟨j, hj⟩ : ∃ j, k = j + 1 := ⟨k - 1, by omega⟩
      have hjl : j < L.length := by have := HK.out.2.1; omega
      obtain ⟨ad, x, rfl, hx, hc⟩ := at_bk' (Kd.C_below HL.out HB.out) (k - 1) (by omega)
      have HX := Aside0.mk (l01Usual_c _ _ b x HOB.out (HO.out x (mem_of hx.out)) wr (HBP.out.below HB.out) hc)
      have q1 : (1 : Int) ≤ (k : Int) := by omega
      have q2 : (0 : Int) < (k : Int) := by omega
      have q3 : (k : Int) < (L.length : Int) + 1 := by have := HK.out.2.1; omega
      have q4 : (k : Int) - 1 < (L.length : Int) := by omega
      have q5 : (0 : Int) ≤ (k : Int) - 1 := by omega
      have q6 : ((k : Int) - 1).toNat = k - 1 := by omega
      have HJ := Aside0.mk hj
      clear h0 hj hc
      go_wp2_with fail
      refine HX.out.mono ?_; rintro _ w1 ⟨rfl, hb1⟩
      have HB1 := Aside0.mk (bstep HB.out hb1)
      clear hb1 HX
      by_cases hlow : cmpU b x < 0
      · have HS := Aside0.mk (show ∀ y, y ∈ L.drop (k - 1) → ltU b y = true by
          intro y hy
          have hx1 : L[k - 1]? = some x := hx.out
          rw [drop_cons hx1] at hy
          rcases List.mem_cons.1 hy with rfl | hy
          · unfold ltU; simpa using hlow
          · exact HK.out.2.2 y (by rw [show k = k - 1 + 1 by have := HJ.out; omega]; exact hy))
        go_wp2
        go_roundg (gk - 1)
        case measure => have := HK.out.1; have := HJ.out; omega
        case rel => exact ⟨k - 1, by first | go_num | (congr 1; have := HJ.out; omega), ⟨by have := HK.out.1; omega, by have := HK.out.2.1; omega, HS.out⟩, HB1⟩
      · have HR := Aside0.mk (placeOf_eq HU.out HK.out.2.1 HK.out.2.2 (.inr ⟨x, hx.out, by unfold ltU; simpa using hlow⟩))
        go_wp2
        go_ret
        exact ⟨ret_int (by rw [HR.out]), HB1.out⟩
set_option maxHeartbeats 4000000 in
theorem specPlaceFor_c (A : Option Addr) (c : Nat) (L : List Bk) (b : Bk) (hok : OkL L) (hob : b.ok) (w : World) (hL : kBk.C w A L.length L) :
    Calls Try.prog 69 #[.slice A L.length c, b.val] w (Ret w (.tuple #[.int .i64 (pfV L b), .int .i64 (pfC L b)])) := by
  have hm := Kd.C_max hL
  have HBX := Aside0.mk (BkAt.box w b 34)
  have HB := Aside0.mk (balloc (Below.refl w.heap.size w) (.cells #[.int .i16 b.c, .int .u8 b.m0, .int .u8 b.m1, .int .u8 b.m2, .int .i16 b.v, .int .i16 b.wd, .int .i16 b.h, .int .i16 b.wt] 34))
  have HL := Aside0.mk hL
  have HO := Aside0.mk hok
  have HOB := Aside0.mk hob
  have HV := Aside0.mk (fun p W h => l01Book_c b hob p W h)
  have HK := Aside0.mk (fun W h => l01Ok_c A c L hok W h)
  have HT := Aside0.mk (fun W h => l01Out_c A c L W h hok)
  clear hL hok hob
  simp only [Bk.val]
  cases h1 : vBook b
  · have HR := Aside0.mk (pf_bad (L := L) (b := b) (e := 1) (by unfold pfC; rw [h1]; rfl) (by decide))
    rw [h1] at HV
    clear h1
    go_enter Try.func69, Try.ntmps69
    go_wp2_with fail
    refine (HV.out _ _ HBX.out).mono ?_; rintro _ w1 ⟨rfl, hb1⟩
    have HB1 := Aside0.mk (bstep HB.out hb1)
    clear hb1
    go_wp2_with fail
    go_ret2
    exact ⟨ret_two HR.out.1.symm HR.out.2.symm, HB1.out⟩
  · rw [h1] at HV
    cases h2 : vBooks L
    · have hs : sCode L = 1 := by unfold sCode; rw [h2]; rfl
      have HR := Aside0.mk (pf_bad (L := L) (b := b) (e := 1) (by unfold pfC; rw [h1, hs]; rfl) (by decide))
      rw [h2] at HK
      clear h1 h2 hs
      go_enter Try.func69, Try.ntmps69
      go_wp2_with fail
      refine (HV.out _ _ HBX.out).mono ?_; rintro _ w1 ⟨rfl, hb1⟩
      have HB1 := Aside0.mk (bstep HB.out hb1)
      clear hb1
      go_wp2_with fail
      refine (HK.out _ (Kd.C_below HL.out HB1.out)).mono ?_; rintro _ w2 ⟨rfl, hb2⟩
      have HB2 := Aside0.mk (bstep HB1.out hb2)
      clear hb2
      go_wp2_with fail
      go_ret2
      exact ⟨ret_two HR.out.1.symm HR.out.2.symm, HB2.out⟩
    · rw [h2] at HK
      by_cases h3 : outOf L < 0
      · have h3' : isS L = true := by unfold isS; simpa using h3
        have hs : sCode L = 0 := sCode_zero.2 ⟨h2, h3'⟩
        have HU := Aside0.mk (isS_up h3')
        by_cases h4 : L.length = 60
        · have HR := Aside0.mk (pf_bad (L := L) (b := b) (e := 3) (by unfold pfC; rw [h1, if_pos rfl, if_pos hs, if_pos h4]) (by decide))
          have hq : ((L.length : Int) == 60) = true := by simp [h4]
          clear h1 h2 h4 h3' hs
          go_enter Try.func69, Try.ntmps69
          go_wp2_with fail
          refine (HV.out _ _ HBX.out).mono ?_; rintro _ w1 ⟨rfl, hb1⟩
          have HB1 := Aside0.mk (bstep HB.out hb1)
          clear hb1
          go_wp2_with fail
          refine (HK.out _ (Kd.C_below HL.out HB1.out)).mono ?_; rintro _ w2 ⟨rfl, hb2⟩
          have HB2 := Aside0.mk (bstep HB1.out hb2)
          clear hb2
          go_wp2_with fail
          refine (HT.out _ (Kd.C_below HL.out HB2.out)).mono ?_; rintro _ w3 ⟨rfl, hb3⟩
          have HB3 := Aside0.mk (bstep HB2.out hb3)
          clear hb3
          go_wp2_with fail
          go_ret2
          exact ⟨ret_two HR.out.1.symm HR.out.2.symm, HB3.out⟩
        · have HR := Aside0.mk (pf_ok (L := L) (b := b) (by unfold pfC; rw [h1, if_pos rfl, if_pos hs, if_neg h4]))
          have hq : ((L.length : Int) == 60) = false := by simpa using (show ¬ (L.length : Int) = 60 by omega)
          clear h1 h2 h4 h3' hs
          go_enter Try.func69, Try.ntmps69
          go_wp2_with fail
          refine (HV.out _ _ HBX.out).mono ?_; rintro _ w1 ⟨rfl, hb1⟩
          have HB1 := Aside0.mk (bstep HB.out hb1)
          have HX1 := Aside0.mk (HBX.out.below hb1)
          clear hb1
          go_wp2_with fail
          refine (HK.out _ (Kd.C_below HL.out HB1.out)).mono ?_; rintro _ w2 ⟨rfl, hb2⟩
          have HB2 := Aside0.mk (bstep HB1.out hb2)
          have HX2 := Aside0.mk (HX1.out.below hb2)
          clear hb2
          go_wp2_with fail
          refine (HT.out _ (Kd.C_below HL.out HB2.out)).mono ?_; rintro _ w3 ⟨rfl, hb3⟩
          have HB3 := Aside0.mk (bstep HB2.out hb3)
          have HX3 := Aside0.mk (HX2.out.below hb3)
          clear hb3
          go_wp2_with fail
          refine (l01Place_c A c L b _ _ (Kd.C_below HL.out HB3.out) HO.out HOB.out HX3.out HU.out).mono ?_; rintro _ w4 ⟨rfl, hb4⟩
          have HB4 := Aside0.mk (bstep HB3.out hb4)
          clear hb4
          go_wp2_with fail
          go_ret2
          exact ⟨ret_two HR.out.1.symm HR.out.2.symm, HB4.out⟩
      · have h3' : isS L = false := by unfold isS; simpa using h3
        have hs : sCode L = 4 := by unfold sCode; rw [h2, h3']; rfl
        have HR := Aside0.mk (pf_bad (L := L) (b := b) (e := 4) (by unfold pfC; rw [h1, hs]; rfl) (by decide))
        clear h1 h2 h3' hs
        go_enter Try.func69, Try.ntmps69
        go_wp2_with fail
        refine (HV.out _ _ HBX.out).mono ?_; rintro _ w1 ⟨rfl, hb1⟩
        have HB1 := Aside0.mk (bstep HB.out hb1)
        clear hb1
        go_wp2_with fail
        refine (HK.out _ (Kd.C_below HL.out HB1.out)).mono ?_; rintro _ w2 ⟨rfl, hb2⟩
        have HB2 := Aside0.mk (bstep HB1.out hb2)
        clear hb2
        go_wp2_with fail
        refine (HT.out _ (Kd.C_below HL.out HB2.out)).mono ?_; rintro _ w3 ⟨rfl, hb3⟩
        have HB3 := Aside0.mk (bstep HB2.out hb3)
        clear hb3
        go_wp2_with fail
        go_ret2
        exact ⟨ret_two HR.out.1.symm HR.out.2.symm, HB3.out⟩
end Go.Proofs.Ytgdhopcbiekhhaa
