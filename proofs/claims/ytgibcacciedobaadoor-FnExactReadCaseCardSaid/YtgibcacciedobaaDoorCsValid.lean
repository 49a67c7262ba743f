/- A case is valid: the program's and the reference's. -/
import Derived.Test.YtgibcacciedobaaDoorCase
import Derived.Test.YtgibcacciedobaaDoorValid
import Derived.StillTailTactics
import Derived.Still
import Derived.Deep.QuietTactic
import Derived.BigQuiet
namespace Go.Proofs.YtgibcacciedobaaDoor
open Go.RowKit Go.Proofs.YtgibcacciedobaaDoorW.PrintWords Go.Proofs.YtgibcacciedobaaDoorW.PrintMore
set_option linter.unusedVariables false
set_option linter.unusedSimpArgs false
set_option maxRecDepth 100000


theorem indexFuncI16_c (A : Option Addr) (c : Nat) (L : List Int) (f : FuncId) (cap : Array Value) (p : Int → Bool) (w : World)
    (hL : (Kd.int .i16).C w A L.length L) (hfn : Fun Tryd.prog f)
    (hf : ∀ W, Below w.heap.size w W → ∀ x, x ∈ L → Calls Tryd.prog f (#[.int .i16 x] ++ cap) W (Ret W (.bool (p x)))) :
    Calls Tryd.prog 138 #[.slice A L.length c, .func (.func f) #[] cap] w (Ret w (.int .i64 (idxF L p))) := by
  have hm := Kd.C_max hL
  have hcf := hfn.run
  have HF := Aside0.mk hf
  have HL := Aside0.mk hL
  clear hf hfn hL
  go_enter Tryd.func138, Tryd.ntmps138
  go_wp2
  go_loopg [8] L.length (fun gk v8 wr => ∃ k : Nat, k + gk = L.length ∧ v8 = .int .i64 k ∧ Aside0 (∀ x, x ∈ L.take k → p x = false) ∧ Aside0 (Below w.heap.size w wr))
  case atStart => exact ⟨0, by omega, rfl, ⟨by simp⟩, ⟨Below.refl _ _⟩⟩
  case round =>
    obtain ⟨k, hk, rfl, hp, hb⟩ := hrel
    have HK := Aside0.mk hk
    by_cases hlt : k < L.length
    · obtain ⟨ad, x, rfl, hbk, hx⟩ := at_int' (Kd.C_below HL.out hb.out) k (by omega)
      clear hk
      go_wp2_with (refine (HF.out _ hb.out _ (mem_of hbk.out)).mono ?_; rintro _ w1 ⟨rfl, hb1⟩)
      · rename_i hpb
        go_ret
        exact ⟨ret_int (idxF_hit hp.out hbk.out hpb).symm, bstep hb.out hb1⟩
      · rename_i hpb
        go_roundg (gk - 1)
        case measure => have := HK.out; omega
        case rel => exact ⟨k + 1, by have := HK.out; omega, by go_num, ⟨fun y hy => by rw [take_snoc hbk.out] at hy; rcases List.mem_append.1 hy with hy | hy; exact hp.out y hy; rw [List.mem_singleton.1 hy]; exact hpb⟩, ⟨bstep hb.out hb1⟩⟩
    · clear hk
      go_wp2
      go_ret
      refine ⟨ret_int (idxF_none ?_).symm, hb.out⟩
      have hp1 := hp.out
      rw [List.take_of_length_le (by omega)] at hp1
      exact hp1


theorem containsFuncI16_c (A : Option Addr) (c : Nat) (L : List Int) (f : FuncId) (cap : Array Value) (p : Int → Bool) (w : World)
    (hL : (Kd.int .i16).C w A L.length L) (hfn : Fun Tryd.prog f)
    (hf : ∀ W, Below w.heap.size w W → ∀ x, x ∈ L → Calls Tryd.prog f (#[.int .i16 x] ++ cap) W (Ret W (.bool (p x)))) :
    Calls Tryd.prog 122 #[.slice A L.length c, .func (.func f) #[] cap] w (Ret w (.bool (L.any p))) := by
  have HI := Aside0.mk (indexFuncI16_c A c L f cap p w hL hfn hf)
  clear hL hfn hf
  go_enter Tryd.func122, Tryd.ntmps122
  go_wp2_with (go_at_call 138; refine HI.out.mono ?_; rintro _ w1 ⟨rfl, hb1⟩)
  all_goals (go_ret; exact ⟨ret_bool (idxF_any L p), hb1⟩)


theorem allCloI16_c (x : Int) (f : FuncId) (cap : Array Value) (g : Nat) (w : World) (r : Bool) (hc : w.cell? ⟨g, 0, none⟩ = some (.func (.func f) #[] cap)) (hg : g < w.heap.size)
    (hf : ∀ W, Below w.heap.size w W → Calls Tryd.prog f (#[.int .i16 x] ++ cap) W (Ret W (.bool r))) (hfn : Fun Tryd.prog f) :
    Calls Tryd.prog 123 #[.int .i16 x, .pointer (some ⟨g, 0, none⟩)] w (Ret w (.bool (!r))) := by
  have hcf := hfn.run
  have HF := Aside0.mk hf
  have hca : ∀ o, (w.alloc o).cell? ⟨g, 0, none⟩ = some (.func (.func f) #[] cap) := fun o => (World.cell?_alloc_lt w o _ hg).trans hc
  clear hf hfn
  go_enter Tryd.func123, Tryd.ntmps123
  go_wp2_with (refine (HF.out _ (by first | exact Below.refl _ _ | exact balloc (Below.refl _ _) _)).mono ?_; rintro _ w1 ⟨rfl, hb1⟩)
  all_goals (go_ret; exact ⟨rfl, by first | exact hb1 | exact bstep (balloc (Below.refl _ _) _) hb1⟩)
theorem areAllI16_c (A : Option Addr) (c : Nat) (L : List Int) (f : FuncId) (cap : Array Value) (p : Int → Bool) (w : World)
    (hL : (Kd.int .i16).C w A L.length L) (hfn : Fun Tryd.prog f)
    (hf : ∀ W, Below w.heap.size w W → ∀ x, x ∈ L → Calls Tryd.prog f (#[.int .i16 x] ++ cap) W (Ret W (.bool (p x)))) :
    Calls Tryd.prog 99 #[.slice A L.length c, .func (.func f) #[] cap] w (Ret w (.bool (L.all p))) := by
  have hcl : ∀ W, Below (w.alloc (.cells #[.func (.func f) #[] cap] 126)).heap.size (w.alloc (.cells #[.func (.func f) #[] cap] 126)) W → ∀ x, x ∈ L →
      Calls Tryd.prog 123 (#[.int .i16 x] ++ #[.pointer (some ⟨w.heap.size, 0, none⟩)]) W (Ret W (.bool (!(p x)))) := fun W hW x hx => by
    have h0 : W.cell? ⟨w.heap.size, 0, none⟩ = some (.func (.func f) #[] cap) := by
      rw [hW.cell (by simp)]; exact (blk_cell (blk_new w _) 0).trans rfl
    have hbW : Below w.heap.size w W := bstep (balloc (Below.refl _ _) _) hW
    exact allCloI16_c x f cap w.heap.size W (p x) h0 (by have := hW.size; simp at this; omega) (fun W' hW' => hf W' (bstep hbW hW') x hx) hfn
  have HI := Aside0.mk (containsFuncI16_c A c L 123 #[.pointer (some ⟨w.heap.size, 0, none⟩)] (fun x => !(p x)) (w.alloc (.cells #[.func (.func f) #[] cap] 126)) (Kd.C_alloc hL _) ⟨_, Tryd.func123, rfl, rfl⟩ hcl)
  clear hL hfn hf hcl
  go_enter Tryd.func99, Tryd.ntmps99
  go_wp2_with (go_at_call 122; refine HI.out.mono ?_; rintro _ w1 ⟨rfl, hb1⟩)
  all_goals (go_ret; exact ⟨ret_bool (by rw [List.all_eq_not_any_not]), bstep (balloc (Below.refl _ _) _) hb1⟩)

def vCase (k : Cs) : Bool := inR k.wd 1 2000 && (inR k.ld 1 200000 && (inR k.hs.length 1 12 && k.hs.all (fun x => inR x 50 1000)))
theorem within32_c (n lo hi : Int) (w : World) : Calls Tryd.prog 98 #[.int .i32 n, .int .i32 lo, .int .i32 hi] w (RetS w (.bool (inR n lo hi))) := by
  go_enter Tryd.func98, Tryd.ntmps98
  go_wp2
  all_goals (go_ret; refine ⟨ret_bool ?_, rfl⟩; unfold inR; rw [Bool.eq_iff_iff]; simp; omega)
theorem withinI_c (n lo hi : Int) (w : World) : Calls Tryd.prog 73 #[.int .i64 n, .int .i64 lo, .int .i64 hi] w (RetS w (.bool (inR n lo hi))) := by
  go_enter Tryd.func73, Tryd.ntmps73
  go_wp2
  all_goals (go_ret; refine ⟨ret_bool ?_, rfl⟩; unfold inR; rw [Bool.eq_iff_iff]; simp; omega)
theorem vcClo_c (n : Int) (w : World) : Calls Tryd.prog 100 #[.int .i16 n] w (RetS w (.bool (inR n 50 1000))) := by
  go_enter Tryd.func100, Tryd.ntmps100
  go_wp2_with (refine (within16_c _ _ _ _).mono ?_; rintro _ w1 ⟨rfl, rfl⟩)
  all_goals (go_ret; exact ⟨rfl, rfl⟩)
set_option maxHeartbeats 1000000 in
theorem ValidCase_c (k : Cs) (A : Option Addr) (c : Nat) (w : World) (hC : (Kd.int .i16).C w A k.hs.length k.hs) :
    Calls Tryd.prog 67 #[k.val A c] w (Ret w (.bool (vCase k))) := by
  have hm := Kd.C_max hC
  have HA := Aside0.mk (areAllI16_c A c k.hs 100 #[] (fun x => inR x 50 1000) _ (Kd.C_alloc hC (.cells #[.int .i16 k.wd, .int .i32 k.ld, .slice A k.hs.length c] 54)) ⟨_, Tryd.func100, rfl, rfl⟩ (fun W hW x hx => (vcClo_c x W).mono fun e w' h => h.ret))
  have HB := Aside0.mk (balloc (Below.refl w.heap.size w) (.cells #[.int .i16 k.wd, .int .i32 k.ld, .slice A k.hs.length c] 54))
  have H1 := Aside0.mk (fun W => within16_c k.wd 1 2000 W)
  have H2 := Aside0.mk (fun W => within32_c k.ld 1 200000 W)
  have H3 := Aside0.mk (fun W => withinI_c k.hs.length 1 12 W)
  have HE := Aside0.mk (show vCase k = (inR k.wd 1 2000 && (inR k.ld 1 200000 && (inR k.hs.length 1 12 && k.hs.all (fun x => inR x 50 1000)))) from rfl)
  clear hC
  simp only [Cs.val]
  cases h1 : inR k.wd 1 2000
  · rw [h1] at H1 HE
    clear h1
    go_enter Tryd.func67, Tryd.ntmps67
    go_wp2_with fail
    refine (H1.out _).mono ?_; rintro _ w1 ⟨rfl, rfl⟩
    go_wp2_with fail
    go_ret
    exact ⟨ret_bool HE.out.symm, HB.out⟩
  · rw [h1] at H1 HE
    clear h1
    cases h2 : inR k.ld 1 200000
    · rw [h2] at H2 HE
      clear h2
      go_enter Tryd.func67, Tryd.ntmps67
      go_wp2_with fail
      refine (H1.out _).mono ?_; rintro _ w1 ⟨rfl, rfl⟩
      go_wp2_with fail
      refine (H2.out _).mono ?_; rintro _ w1 ⟨rfl, rfl⟩
      go_wp2_with fail
      go_ret
      exact ⟨ret_bool HE.out.symm, HB.out⟩
    · rw [h2] at H2 HE
      clear h2
      cases h3 : inR k.hs.length 1 12
      · rw [h3] at H3 HE
        clear h3
        go_enter Tryd.func67, Tryd.ntmps67
        go_wp2_with fail
        refine (H1.out _).mono ?_; rintro _ w1 ⟨rfl, rfl⟩
        go_wp2_with fail
        refine (H2.out _).mono ?_; rintro _ w1 ⟨rfl, rfl⟩
        go_wp2_with fail
        refine (H3.out _).mono ?_; rintro _ w1 ⟨rfl, rfl⟩
        go_wp2_with fail
        go_ret
        exact ⟨ret_bool HE.out.symm, HB.out⟩
      · rw [h3] at H3 HE
        clear h3
        go_enter Tryd.func67, Tryd.ntmps67
        go_wp2_with fail
        refine (H1.out _).mono ?_; rintro _ w1 ⟨rfl, rfl⟩
        go_wp2_with fail
        refine (H2.out _).mono ?_; rintro _ w1 ⟨rfl, rfl⟩
        go_wp2_with fail
        refine (H3.out _).mono ?_; rintro _ w1 ⟨rfl, rfl⟩
        go_wp2_with fail
        refine HA.out.mono ?_; rintro _ w1 ⟨rfl, hb1⟩
        have HB1 := Aside0.mk (bstep HB.out hb1)
        clear hb1
        go_wp2_with fail
        go_ret
        exact ⟨ret_bool HE.out.symm, HB1.out⟩
theorem all_take {α : Type} {L : List α} {p : α → Bool} {k : Nat} {x : α} (h : ∀ y, y ∈ L.take k → p y = true) (hx : L[k]? = some x) (hp : p x = true) : ∀ y, y ∈ L.take (k + 1) → p y = true := by
  intro y hy
  rw [take_snoc hx] at hy
  rcases List.mem_append.1 hy with hy | hy
  · exact h y hy
  · rw [List.mem_singleton.1 hy]; exact hp
set_option maxHeartbeats 4000000 in
theorem l02Ok_c (k : Cs) (A : Option Addr) (c : Nat) (hok : k.ok) (p : Addr) (w : World) (hp : CsAt w p k A c) (hC : (Kd.int .i16).C w A k.hs.length k.hs) :
    Calls Tryd.prog 64 #[.pointer (some p)] w (RetS w (.bool (vCase k))) := by
  have hm := Kd.C_max hC
  have HL := Aside0.mk hC
  obtain ⟨⟨o1, o2⟩, ⟨o3, o4⟩, o5⟩ := hok
  have HO := Aside0.mk o5
  have HE := Aside0.mk (show vCase k = (inR k.wd 1 2000 && (inR k.ld 1 200000 && (inR k.hs.length 1 12 && k.hs.all (fun x => inR x 50 1000)))) from rfl)
  obtain ⟨y0, y1, y2⟩ := hp
  clear hC o5
  have H1 := Aside0.mk (fun W => l00In_c k.wd 1 2000 W)
  have H2 := Aside0.mk (fun W => l00In_c k.ld 1 200000 W)
  have H3 := Aside0.mk (fun W => l00In_c k.hs.length 1 12 W)
  cases h1 : inR k.wd 1 2000
  · rw [h1] at H1 HE
    clear h1
    go_enter Tryd.func64, Tryd.ntmps64
    go_wp2_with fail
    refine (H1.out _).mono ?_; rintro _ w1 ⟨rfl, rfl⟩
    go_wp2_with fail
    go_ret
    exact ⟨ret_bool HE.out.symm, rfl⟩
  · rw [h1] at H1 HE
    clear h1
    cases h2 : inR k.ld 1 200000
    · rw [h2] at H2 HE
      clear h2
      go_enter Tryd.func64, Tryd.ntmps64
      go_wp2_with fail
      refine (H1.out _).mono ?_; rintro _ w1 ⟨rfl, rfl⟩
      go_wp2_with fail
      refine (H2.out _).mono ?_; rintro _ w1 ⟨rfl, rfl⟩
      go_wp2_with fail
      go_ret
      exact ⟨ret_bool HE.out.symm, rfl⟩
    · rw [h2] at H2 HE
      clear h2
      cases h3 : inR k.hs.length 1 12
      · rw [h3] at H3 HE
        clear h3
        go_enter Tryd.func64, Tryd.ntmps64
        go_wp2_with fail
        refine (H1.out _).mono ?_; rintro _ w1 ⟨rfl, rfl⟩
        go_wp2_with fail
        refine (H2.out _).mono ?_; rintro _ w1 ⟨rfl, rfl⟩
        go_wp2_with fail
        refine (H3.out _).mono ?_; rintro _ w1 ⟨rfl, rfl⟩
        go_wp2_with fail
        go_ret
        exact ⟨ret_bool HE.out.symm, rfl⟩
      · rw [h3] at H3 HE
        simp only [Bool.true_and] at HE
        clear h3
        go_enter Tryd.func64, Tryd.ntmps64
        go_wp2_with fail
        refine (H1.out _).mono ?_; rintro _ w1 ⟨rfl, rfl⟩
        go_wp2_with fail
        refine (H2.out _).mono ?_; rintro _ w1 ⟨rfl, rfl⟩
        go_wp2_with fail
        refine (H3.out _).mono ?_; rintro _ w1 ⟨rfl, rfl⟩
        clear H1 H2 H3
        go_wp2_with fail
        go_loopg [3] k.hs.length (fun gk v wr => ∃ i : Nat, i + gk = k.hs.length ∧ v = .int .i64 i ∧ Aside0 (∀ x, x ∈ k.hs.take i → inR x 50 1000 = true) ∧ w = wr)
        case atStart => exact ⟨0, by omega, rfl, ⟨by simp⟩, rfl⟩
        case round =>
          obtain ⟨i, hk, rfl, hp, rfl⟩ := hrel
          have HK := Aside0.mk hk
          by_cases hlt : i < k.hs.length
          · obtain ⟨ad, x, rfl, hbk, hx⟩ := at_int' HL.out i (by omega)
            obtain ⟨q1, q2⟩ := HO.out x (mem_of hbk.out)
            have HW := Aside0.mk (fun W => l00In_c x 50 1000 W)
            clear hk
            have i0 : (0 : Int) ≤ (i : Int) := by omega
            have i1 : (i : Int) < (k.hs.length : Int) := by omega
            cases hv : inR x 50 1000
            · rw [hv] at HW
              have HN := Aside0.mk (show k.hs.all (fun x => inR x 50 1000) = false from all_hit (p := fun x => inR x 50 1000) hbk.out hv)
              clear hv
              go_wp2_with fail
              refine (HW.out _).mono ?_; rintro _ w1 ⟨rfl, rfl⟩
              go_wp2_with fail
              go_ret
              exact ⟨ret_bool (by rw [HE.out, HN.out]), rfl⟩
            · rw [hv] at HW
              have HN := Aside0.mk (all_take (p := fun x => inR x 50 1000) hp.out hbk.out hv)
              clear hv
              go_wp2_with fail
              refine (HW.out _).mono ?_; rintro _ w1 ⟨rfl, rfl⟩
              go_wp2_with fail
              go_roundg (gk - 1)
              case measure => have := HK.out; omega
              case rel => exact ⟨i + 1, by have := HK.out; omega, by go_num, HN, rfl⟩
          · have HN := Aside0.mk (show k.hs.all (fun x => inR x 50 1000) = true by
              have h1 := hp.out
              rw [List.take_of_length_le (by omega)] at h1
              exact List.all_eq_true.2 h1)
            clear hk
            go_wp2
            go_ret
            exact ⟨ret_bool (by rw [HE.out, HN.out]), rfl⟩
end Go.Proofs.YtgibcacciedobaaDoor
