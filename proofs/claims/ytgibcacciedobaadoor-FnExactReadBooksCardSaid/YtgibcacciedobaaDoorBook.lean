/- A book is valid: the program's ValidBook and the reference's. -/
import Derived.Test.YtgibcacciedobaaDoorAll
namespace Go.Proofs.YtgibcacciedobaaDoor
open Go.RowKit Go.Proofs.YtgibcacciedobaaDoorW.PrintWords Go.Proofs.YtgibcacciedobaaDoorW.PrintMore
set_option linter.unusedVariables false
set_option linter.unusedSimpArgs false
set_option maxRecDepth 100000

/-- A mark of three small letters. -/
def vMark (x y z : Int) : Bool := inR x 97 122 && (inR y 97 122 && inR z 97 122)
def vBook (b : Bk) : Bool := inR b.c 0 999 && (vMark b.m0 b.m1 b.m2 && (inR b.v 1 99 && (inR b.wd 1 100 && (inR b.h 50 400 && inR b.wt 1 9999))))

theorem within16_c (n lo hi : Int) (w : World) : Calls Tryd.prog 82 #[.int .i16 n, .int .i16 lo, .int .i16 hi] w (RetS w (.bool (inR n lo hi))) := by
  go_enter Tryd.func82, Tryd.ntmps82
  go_wp2
  all_goals (go_ret; refine ⟨ret_bool ?_, rfl⟩; unfold inR; rw [Bool.eq_iff_iff]; simp; omega)
theorem l00In_c (n lo hi : Int) (w : World) : Calls Tryd.prog 80 #[.int .i64 n, .int .i64 lo, .int .i64 hi] w (RetS w (.bool (inR n lo hi))) := by
  go_enter Tryd.func80, Tryd.ntmps80
  go_wp2
  all_goals (go_ret; refine ⟨ret_bool ?_, rfl⟩; unfold inR; rw [Bool.eq_iff_iff]; simp; omega)
theorem isSmall_c (n : Int) (w : World) : Calls Tryd.prog 84 #[.int .u8 n] w (RetS w (.bool (inR n 97 122))) := by
  go_enter Tryd.func84, Tryd.ntmps84
  go_wp2
  all_goals (go_ret; refine ⟨ret_bool ?_, rfl⟩; unfold inR; rw [Bool.eq_iff_iff]; simp; omega)
theorem l01Class_c (n : Int) (w : World) : Calls Tryd.prog 78 #[.int .i64 n] w (RetS w (.bool (inR n 0 999))) := by
  go_enter Tryd.func78, Tryd.ntmps78
  go_wp2_with (go_at_call 80; refine (l00In_c _ _ _ _).mono ?_; rintro _ w1 ⟨rfl, rfl⟩)
  all_goals (go_ret; exact ⟨rfl, rfl⟩)

/-- The three bytes of an array that lies in a block read as a slice. -/
theorem marks_C (W : World) (g o : Nat) (x y z : Int) (h0 : W.cell? ⟨g, o, none⟩ = some (.int .u8 x)) (h1 : W.cell? ⟨g, o + 1, none⟩ = some (.int .u8 y)) (h2 : W.cell? ⟨g, o + 2, none⟩ = some (.int .u8 z)) :
    (Kd.int .u8).C W (some ⟨g, o, none⟩) [x, y, z].length [x, y, z] := by
  refine ⟨rfl, by simp, fun _ => ⟨_, rfl, fun j p hj => ?_⟩⟩
  match j, hj with
  | 0, hj => cases hj; exact ⟨_, rfl, rfl, fun i u hu => by match i, hu with | 0, hu => cases hu; simpa [Addr.add] using h0⟩
  | 1, hj => cases hj; exact ⟨_, rfl, rfl, fun i u hu => by match i, hu with | 0, hu => cases hu; simpa [Addr.add, Kd.int, Kd.scalar] using h1⟩
  | 2, hj => cases hj; exact ⟨_, rfl, rfl, fun i u hu => by match i, hu with | 0, hu => cases hu; simpa [Addr.add, Kd.int, Kd.scalar] using h2⟩

theorem markAll (x y z : Int) : [x, y, z].all (fun c => inR c 97 122) = vMark x y z := by simp [vMark]

set_option maxHeartbeats 1000000 in
theorem ValidBook_c (b : Bk) (w : World) : Calls Tryd.prog 46 #[b.val] w (Ret w (.bool (vBook b))) := by
  have hC := marks_C (w.alloc (.cells #[.int .i16 b.c, .int .u8 b.m0, .int .u8 b.m1, .int .u8 b.m2, .int .i16 b.v, .int .i16 b.wd, .int .i16 b.h, .int .i16 b.wt] 27)) w.heap.size 1 b.m0 b.m1 b.m2
    ((blk_cell (blk_new w _) 1).trans rfl) ((blk_cell (blk_new w _) 2).trans rfl) ((blk_cell (blk_new w _) 3).trans rfl)
  have HA := Aside0.mk (areAllBy_c _ 3 _ 84 #[] (fun c => inR c 97 122) _ hC ⟨_, Tryd.func84, rfl, rfl⟩ (fun W hW x hx => (isSmall_c x W).mono fun e w' h => h.ret))
  rw [markAll] at HA
  clear hC
  simp only [Bk.val]
  cases h1 : inR b.c 0 999
  · have HV := Aside0.mk (show vBook b = false by simp [vBook, h1])
    go_enter Tryd.func46, Tryd.ntmps46
    go_wp2_with (first | (go_at_call 82; refine (within16_c _ _ _ _).mono ?_; rintro _ w1 ⟨rfl, rfl⟩) | (go_at_call 83; refine HA.out.mono ?_; rintro _ w1 ⟨rfl, hb1⟩; have HB1 := Aside0.mk hb1; obtain ⟨hc1, hf1⟩ := bcell hb1; clear hb1))
    all_goals (go_ret; exact ⟨ret_bool HV.out.symm, balloc (Below.refl _ _) _⟩)
  · cases h2 : vMark b.m0 b.m1 b.m2
    · rw [h2] at HA
      have HV := Aside0.mk (show vBook b = false by simp [vBook, h1, h2])
      go_enter Tryd.func46, Tryd.ntmps46
      go_wp2_with (first | (go_at_call 82; refine (within16_c _ _ _ _).mono ?_; rintro _ w1 ⟨rfl, rfl⟩) | (go_at_call 83; refine HA.out.mono ?_; rintro _ w1 ⟨rfl, hb1⟩; have HB1 := Aside0.mk hb1; obtain ⟨hc1, hf1⟩ := bcell hb1; clear hb1))
      all_goals (go_ret; exact ⟨ret_bool HV.out.symm, bstep (balloc (Below.refl _ _) _) HB1.out⟩)
    · rw [h2] at HA
      cases h3 : inR b.v 1 99
      · have HV := Aside0.mk (show vBook b = false by simp [vBook, h1, h2, h3])
        go_enter Tryd.func46, Tryd.ntmps46
        go_wp2_with (first | (go_at_call 82; refine (within16_c _ _ _ _).mono ?_; rintro _ w1 ⟨rfl, rfl⟩) | (go_at_call 83; refine HA.out.mono ?_; rintro _ w1 ⟨rfl, hb1⟩; have HB1 := Aside0.mk hb1; obtain ⟨hc1, hf1⟩ := bcell hb1; clear hb1))
        all_goals (go_ret; exact ⟨ret_bool HV.out.symm, bstep (balloc (Below.refl _ _) _) HB1.out⟩)
      · cases h4 : inR b.wd 1 100
        · have HV := Aside0.mk (show vBook b = false by simp [vBook, h1, h2, h3, h4])
          go_enter Tryd.func46, Tryd.ntmps46
          go_wp2_with (first | (go_at_call 82; refine (within16_c _ _ _ _).mono ?_; rintro _ w1 ⟨rfl, rfl⟩) | (go_at_call 83; refine HA.out.mono ?_; rintro _ w1 ⟨rfl, hb1⟩; have HB1 := Aside0.mk hb1; obtain ⟨hc1, hf1⟩ := bcell hb1; clear hb1))
          all_goals (go_ret; exact ⟨ret_bool HV.out.symm, bstep (balloc (Below.refl _ _) _) HB1.out⟩)
        · cases h5 : inR b.h 50 400
          · have HV := Aside0.mk (show vBook b = false by simp [vBook, h1, h2, h3, h4, h5])
            go_enter Tryd.func46, Tryd.ntmps46
            go_wp2_with (first | (go_at_call 82; refine (within16_c _ _ _ _).mono ?_; rintro _ w1 ⟨rfl, rfl⟩) | (go_at_call 83; refine HA.out.mono ?_; rintro _ w1 ⟨rfl, hb1⟩; have HB1 := Aside0.mk hb1; obtain ⟨hc1, hf1⟩ := bcell hb1; clear hb1))
            all_goals (go_ret; exact ⟨ret_bool HV.out.symm, bstep (balloc (Below.refl _ _) _) HB1.out⟩)
          · cases h6 : inR b.wt 1 9999
            · have HV := Aside0.mk (show vBook b = false by simp [vBook, h1, h2, h3, h4, h5, h6])
              go_enter Tryd.func46, Tryd.ntmps46
              go_wp2_with (first | (go_at_call 82; refine (within16_c _ _ _ _).mono ?_; rintro _ w1 ⟨rfl, rfl⟩) | (go_at_call 83; refine HA.out.mono ?_; rintro _ w1 ⟨rfl, hb1⟩; have HB1 := Aside0.mk hb1; obtain ⟨hc1, hf1⟩ := bcell hb1; clear hb1))
              all_goals (go_ret; exact ⟨ret_bool HV.out.symm, bstep (balloc (Below.refl _ _) _) HB1.out⟩)
            · have HV := Aside0.mk (show vBook b = true by simp [vBook, h1, h2, h3, h4, h5, h6])
              go_enter Tryd.func46, Tryd.ntmps46
              go_wp2_with (first | (go_at_call 82; refine (within16_c _ _ _ _).mono ?_; rintro _ w1 ⟨rfl, rfl⟩) | (go_at_call 83; refine HA.out.mono ?_; rintro _ w1 ⟨rfl, hb1⟩; have HB1 := Aside0.mk hb1; obtain ⟨hc1, hf1⟩ := bcell hb1; clear hb1))
              all_goals (go_ret; exact ⟨ret_bool HV.out.symm, bstep (balloc (Below.refl _ _) _) HB1.out⟩)
end Go.Proofs.YtgibcacciedobaaDoor
