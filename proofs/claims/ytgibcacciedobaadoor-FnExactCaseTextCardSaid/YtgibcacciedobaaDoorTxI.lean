/- CaseText: the program's and the reference's. -/
import Derived.Test.YtgibcacciedobaaDoorTxH
import Derived.StillTailTactics
import Derived.Still
import Derived.Deep.QuietTactic
import Derived.BigQuiet
namespace Go.Proofs.YtgibcacciedobaaDoor
open Go.RowKit Go.Proofs.YtgibcacciedobaaDoorW.PrintWords Go.Proofs.YtgibcacciedobaaDoorW.PrintMore
set_option linter.unusedVariables false
set_option linter.unusedSimpArgs false
set_option maxRecDepth 100000

def tC (k : Cs) : ByteArray := if vCase k = true then bS (csT k) else ⟨#[]⟩
set_option maxHeartbeats 2000000 in
theorem CaseText_c (k : Cs) (A : Option Addr) (c : Nat) (w : World) (hC : (Kd.int .i16).C w A k.hs.length k.hs) (ht : Tab w) : Calls Tryd.prog 33 #[k.val A c] w (Ret w (.string (tC k))) := by
  have hbx := CsAt.box w k A c 54
  have hb0 : Below w.heap.size w (w.alloc (.cells #[.int .i16 k.wd, .int .i32 k.ld, .slice A k.hs.length c] 54)) := balloc (Below.refl _ _) _
  have HT := Aside0.mk ht
  have HC := Aside0.mk hC
  have HI := Aside0.mk (fun W h => ValidCase_c k A c W h)
  simp only [Cs.val] at HI ⊢
  clear ht hC
  cases hv : vCase k
  · have HV := Aside0.mk (show tC k = ⟨#[]⟩ by unfold tC; rw [hv]; rfl)
    rw [hv] at HI
    clear hv
    go_enter Tryd.func33, Tryd.ntmps33
    go_wp2_with fail
    generalize World.alloc w _ = W1 at hbx hb0 ⊢
    generalize w.heap.size = g at hbx ⊢
    have HB0 := Aside0.mk hb0
    obtain ⟨c0, c1, c2⟩ := hbx
    clear hb0
    go_wp2_with (go_at_call 67; refine (HI.out _ (Kd.C_below HC.out HB0.out)).mono ?_; rintro _ w2 ⟨rfl, hb2⟩)
    go_ret
    exact ⟨ret_str HV.out.symm, bstep HB0.out hb2⟩
  · have HV := Aside0.mk (show tC k = bS (csT k) by unfold tC; rw [hv]; rfl)
    have HQ := Aside0.mk (fun W h1 h2 => caseText_c k A c (vC1 hv) W h1 h2)
    rw [hv] at HI
    simp only [Cs.val] at HQ
    clear hv
    go_enter Tryd.func33, Tryd.ntmps33
    go_wp2_with fail
    generalize World.alloc w _ = W1 at hbx hb0 ⊢
    generalize w.heap.size = g at hbx ⊢
    have HB0 := Aside0.mk hb0
    have HX := Aside0.mk hbx
    obtain ⟨c0, c1, c2⟩ := hbx
    clear hb0
    go_wp2_with fail
    refine (HI.out _ (Kd.C_below HC.out HB0.out)).mono ?_; rintro _ w2 ⟨rfl, hb2⟩
    have HB2 := Aside0.mk (bstep HB0.out hb2)
    clear c0 c1 c2
    obtain ⟨c0, c1, c2⟩ := HX.out.below hb2
    clear hb2
    go_wp2_with fail
    refine (HQ.out _ (Kd.C_below HC.out HB2.out) (HT.out.below HB2.out)).mono ?_; rintro _ w3 ⟨rfl, hb3⟩
    go_wp2
    go_ret
    exact ⟨ret_str HV.out.symm, bstep HB2.out hb3⟩
set_option maxHeartbeats 2000000 in
theorem specCaseText_c (k : Cs) (A : Option Addr) (c : Nat) (hok : k.ok) (w : World) (hC : (Kd.int .i16).C w A k.hs.length k.hs) : Calls Tryd.prog 31 #[k.val A c] w (Ret w (.string (tC k))) := by
  have hbx := CsAt.box w k A c 54
  have hb0 : Below w.heap.size w (w.alloc (.cells #[.int .i16 k.wd, .int .i32 k.ld, .slice A k.hs.length c] 54)) := balloc (Below.refl _ _) _
  have HC := Aside0.mk hC
  have HI := Aside0.mk (fun p W h h2 => l02Ok_c k A c hok p W h h2)
  simp only [Cs.val]
  clear hok hC
  cases hv : vCase k
  · have HV := Aside0.mk (show tC k = ⟨#[]⟩ by unfold tC; rw [hv]; rfl)
    rw [hv] at HI
    clear hv
    go_enter Tryd.func31, Tryd.ntmps31
    go_wp2_with fail
    generalize World.alloc w _ = W1 at hbx hb0 ⊢
    generalize w.heap.size = g at hbx ⊢
    refine (HI.out _ _ hbx (Kd.C_below HC.out hb0)).mono ?_; rintro _ w2 ⟨rfl, rfl⟩
    have HB2 := Aside0.mk hb0
    clear hb0 hbx
    go_wp2
    go_ret
    exact ⟨ret_str HV.out.symm, HB2.out⟩
  · have HV := Aside0.mk (show tC k = bS (csT k) by unfold tC; rw [hv]; rfl)
    have HQ := Aside0.mk (fun a W h h2 => l02Text_c k A c (vC1 hv) a W h h2)
    rw [hv] at HI
    clear hv
    go_enter Tryd.func31, Tryd.ntmps31
    go_wp2_with fail
    generalize World.alloc w _ = W1 at hbx hb0 ⊢
    generalize w.heap.size = g at hbx ⊢
    refine (HI.out _ _ hbx (Kd.C_below HC.out hb0)).mono ?_; rintro _ w2 ⟨rfl, rfl⟩
    have HB2 := Aside0.mk hb0
    have HX := Aside0.mk hbx
    clear hb0 hbx
    go_wp2_with fail
    refine (HQ.out _ _ HX.out (Kd.C_below HC.out HB2.out)).mono ?_; rintro _ w3 ⟨rfl, hb3⟩
    go_wp2
    go_ret
    exact ⟨ret_str HV.out.symm, bstep HB2.out hb3⟩
end Go.Proofs.YtgibcacciedobaaDoor
