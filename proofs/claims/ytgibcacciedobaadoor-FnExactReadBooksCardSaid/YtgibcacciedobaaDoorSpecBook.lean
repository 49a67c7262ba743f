/- The reference's ValidBook. -/
import Derived.Test.YtgibcacciedobaaDoorBook
namespace Go.Proofs.YtgibcacciedobaaDoor
open Go.RowKit Go.Proofs.YtgibcacciedobaaDoorW.PrintWords Go.Proofs.YtgibcacciedobaaDoorW.PrintMore
set_option linter.unusedVariables false
set_option linter.unusedSimpArgs false
set_option maxRecDepth 100000

theorem vm0 {x y z : Int} (h : x < 97 ∨ 122 < x) : false = vMark x y z := by simp [vMark, inR]; omega
theorem vm1 {x y z : Int} (h : y < 97 ∨ 122 < y) : false = vMark x y z := by simp [vMark, inR]; omega
theorem vm2 {x y z : Int} (h : z < 97 ∨ 122 < z) : false = vMark x y z := by simp [vMark, inR]; omega
theorem vm3 {x y z : Int} (hx : 97 ≤ x ∧ x ≤ 122) (hy : 97 ≤ y ∧ y ≤ 122) (hz : 97 ≤ z ∧ z ≤ 122) : true = vMark x y z := by simp [vMark, inR]; omega
set_option maxHeartbeats 1000000 in
theorem l01Mark_c (x y z : Int) (w : World) : Calls Tryd.prog 79 #[.agg #[.int .u8 x, .int .u8 y, .int .u8 z]] w (Ret w (.bool (vMark x y z))) := by
  go_enter Tryd.func79, Tryd.ntmps79
  go_wp2
  go_loop [3] (fun v => ∃ k : Nat, k ≤ 3 ∧ v = .int .i64 k ∧ Aside0 ((0 < k → 97 ≤ x ∧ x ≤ 122) ∧ (1 < k → 97 ≤ y ∧ y ≤ 122) ∧ (2 < k → 97 ≤ z ∧ z ≤ 122))) (fun v => 3 - (intOf v).toNat)
  case atStart => exact ⟨0, by omega, rfl, ⟨by omega, by omega, by omega⟩⟩
  case round =>
    obtain ⟨k, hk, rfl, hp⟩ := hrel
    have hk' : k = 0 ∨ k = 1 ∨ k = 2 ∨ k = 3 := by omega
    clear hk
    rcases hk' with rfl | rfl | rfl | rfl
    · go_wp2
      all_goals first
        | (go_ret; exact ⟨ret_bool (vm0 (by omega)), balloc (Below.refl _ _) _⟩)
        | (go_round; (case rel => exact ⟨1, by omega, rfl, ⟨by omega, by omega, by omega⟩⟩); (case measure => simp [intOf]))
    · go_wp2
      all_goals first
        | (go_ret; exact ⟨ret_bool (vm1 (by omega)), balloc (Below.refl _ _) _⟩)
        | (have hp := hp.out; go_round; (case rel => exact ⟨2, by omega, rfl, ⟨by omega, by omega, by omega⟩⟩); (case measure => simp [intOf]))
    · go_wp2
      all_goals first
        | (go_ret; exact ⟨ret_bool (vm2 (by omega)), balloc (Below.refl _ _) _⟩)
        | (have hp := hp.out; go_round; (case rel => exact ⟨3, by omega, rfl, ⟨by omega, by omega, by omega⟩⟩); (case measure => simp [intOf]))
    · go_wp2
      have hp := hp.out
      go_ret
      exact ⟨ret_bool (vm3 (by omega) (by omega) (by omega)), balloc (Below.refl _ _) _⟩

set_option maxHeartbeats 1000000 in
theorem l01Book_c (b : Bk) (hok : b.ok) (a : Addr) (w : World) (ha : BkAt w a b) : Calls Tryd.prog 43 #[.pointer (some a)] w (Ret w (.bool (vBook b))) := by
  obtain ⟨⟨i0, i0'⟩, ⟨i1, i1'⟩, ⟨i2, i2'⟩, ⟨i3, i3'⟩, ⟨i4, i4'⟩, ⟨i5, i5'⟩, ⟨i6, i6'⟩, i7, i7'⟩ := hok
  have HA := Aside0.mk ha
  obtain ⟨x0, x1, x2, x3, x4, x5, x6, x7⟩ := ha
  cases h1 : inR b.c 0 999
  · have HV := Aside0.mk (show vBook b = false by simp [vBook, h1])
    go_enter Tryd.func43, Tryd.ntmps43
    go_wp2_with (first | (go_at_call 78; refine (l01Class_c _ _).mono ?_; rintro _ w1 ⟨rfl, rfl⟩) | (go_at_call 80; refine (l00In_c _ _ _ _).mono ?_; rintro _ w1 ⟨rfl, rfl⟩) | (go_at_call 79; refine (l01Mark_c _ _ _ _).mono ?_; rintro _ w1 ⟨rfl, hb1⟩; have HB1 := Aside0.mk hb1; obtain ⟨y0, y1, y2, y3, y4, y5, y6, y7⟩ := HA.out.below hb1; clear hb1))
    all_goals (go_ret; exact ⟨ret_bool HV.out.symm, Below.refl _ _⟩)
  · cases h2 : vMark b.m0 b.m1 b.m2
    · have HV := Aside0.mk (show vBook b = false by simp [vBook, h1, h2])
      go_enter Tryd.func43, Tryd.ntmps43
      go_wp2_with (first | (go_at_call 78; refine (l01Class_c _ _).mono ?_; rintro _ w1 ⟨rfl, rfl⟩) | (go_at_call 80; refine (l00In_c _ _ _ _).mono ?_; rintro _ w1 ⟨rfl, rfl⟩) | (go_at_call 79; refine (l01Mark_c _ _ _ _).mono ?_; rintro _ w1 ⟨rfl, hb1⟩; have HB1 := Aside0.mk hb1; obtain ⟨y0, y1, y2, y3, y4, y5, y6, y7⟩ := HA.out.below hb1; clear hb1))
      all_goals (go_ret; exact ⟨ret_bool HV.out.symm, HB1.out⟩)
    · cases h3 : inR b.v 1 99
      · have HV := Aside0.mk (show vBook b = false by simp [vBook, h1, h2, h3])
        go_enter Tryd.func43, Tryd.ntmps43
        go_wp2_with (first | (go_at_call 78; refine (l01Class_c _ _).mono ?_; rintro _ w1 ⟨rfl, rfl⟩) | (go_at_call 80; refine (l00In_c _ _ _ _).mono ?_; rintro _ w1 ⟨rfl, rfl⟩) | (go_at_call 79; refine (l01Mark_c _ _ _ _).mono ?_; rintro _ w1 ⟨rfl, hb1⟩; have HB1 := Aside0.mk hb1; obtain ⟨y0, y1, y2, y3, y4, y5, y6, y7⟩ := HA.out.below hb1; clear hb1))
        all_goals (go_ret; exact ⟨ret_bool HV.out.symm, HB1.out⟩)
      · cases h4 : inR b.wd 1 100
        · have HV := Aside0.mk (show vBook b = false by simp [vBook, h1, h2, h3, h4])
          go_enter Tryd.func43, Tryd.ntmps43
          go_wp2_with (first | (go_at_call 78; refine (l01Class_c _ _).mono ?_; rintro _ w1 ⟨rfl, rfl⟩) | (go_at_call 80; refine (l00In_c _ _ _ _).mono ?_; rintro _ w1 ⟨rfl, rfl⟩) | (go_at_call 79; refine (l01Mark_c _ _ _ _).mono ?_; rintro _ w1 ⟨rfl, hb1⟩; have HB1 := Aside0.mk hb1; obtain ⟨y0, y1, y2, y3, y4, y5, y6, y7⟩ := HA.out.below hb1; clear hb1))
          all_goals (go_ret; exact ⟨ret_bool HV.out.symm, HB1.out⟩)
        · cases h5 : inR b.h 50 400
          · have HV := Aside0.mk (show vBook b = false by simp [vBook, h1, h2, h3, h4, h5])
            go_enter Tryd.func43, Tryd.ntmps43
            go_wp2_with (first | (go_at_call 78; refine (l01Class_c _ _).mono ?_; rintro _ w1 ⟨rfl, rfl⟩) | (go_at_call 80; refine (l00In_c _ _ _ _).mono ?_; rintro _ w1 ⟨rfl, rfl⟩) | (go_at_call 79; refine (l01Mark_c _ _ _ _).mono ?_; rintro _ w1 ⟨rfl, hb1⟩; have HB1 := Aside0.mk hb1; obtain ⟨y0, y1, y2, y3, y4, y5, y6, y7⟩ := HA.out.below hb1; clear hb1))
            all_goals (go_ret; exact ⟨ret_bool HV.out.symm, HB1.out⟩)
          · cases h6 : inR b.wt 1 9999
            · have HV := Aside0.mk (show vBook b = false by simp [vBook, h1, h2, h3, h4, h5, h6])
              go_enter Tryd.func43, Tryd.ntmps43
              go_wp2_with (first | (go_at_call 78; refine (l01Class_c _ _).mono ?_; rintro _ w1 ⟨rfl, rfl⟩) | (go_at_call 80; refine (l00In_c _ _ _ _).mono ?_; rintro _ w1 ⟨rfl, rfl⟩) | (go_at_call 79; refine (l01Mark_c _ _ _ _).mono ?_; rintro _ w1 ⟨rfl, hb1⟩; have HB1 := Aside0.mk hb1; obtain ⟨y0, y1, y2, y3, y4, y5, y6, y7⟩ := HA.out.below hb1; clear hb1))
              all_goals (go_ret; exact ⟨ret_bool HV.out.symm, HB1.out⟩)
            · have HV := Aside0.mk (show vBook b = true by simp [vBook, h1, h2, h3, h4, h5, h6])
              go_enter Tryd.func43, Tryd.ntmps43
              go_wp2_with (first | (go_at_call 78; refine (l01Class_c _ _).mono ?_; rintro _ w1 ⟨rfl, rfl⟩) | (go_at_call 80; refine (l00In_c _ _ _ _).mono ?_; rintro _ w1 ⟨rfl, rfl⟩) | (go_at_call 79; refine (l01Mark_c _ _ _ _).mono ?_; rintro _ w1 ⟨rfl, hb1⟩; have HB1 := Aside0.mk hb1; obtain ⟨y0, y1, y2, y3, y4, y5, y6, y7⟩ := HA.out.below hb1; clear hb1))
              all_goals (go_ret; exact ⟨ret_bool HV.out.symm, HB1.out⟩)
end Go.Proofs.YtgibcacciedobaaDoor
