/- areAll, slices.ContainsFunc, slices.IndexFunc at books and at bytes: they ask the function value of every element. -/
import Derived.Test.YtgibcacciedobaaDoorBase
namespace Go.Proofs.YtgibcacciedobaaDoor
open Go.RowKit Go.Proofs.YtgibcacciedobaaDoorW.PrintWords Go.Proofs.YtgibcacciedobaaDoorW.PrintMore
set_option linter.unusedVariables false
set_option linter.unusedSimpArgs false
set_option maxRecDepth 100000


theorem indexFuncBk_c (A : Option Addr) (c : Nat) (L : List Bk) (f : FuncId) (cap : Array Value) (p : Bk → Bool) (w : World)
    (hL : kBk.C w A L.length L) (hfn : Fun Tryd.prog f)
    (hf : ∀ W, Below w.heap.size w W → ∀ x, x ∈ L → Calls Tryd.prog f (#[x.val] ++ cap) W (Ret W (.bool (p x)))) :
    Calls Tryd.prog 128 #[.slice A L.length c, .func (.func f) #[] cap] w (Ret w (.int .i64 (idxF L p))) := by
  have hm := Kd.C_max hL
  have hcf := hfn.run
  have HF := Aside0.mk hf
  have HL := Aside0.mk hL
  clear hf hfn hL
  go_enter Tryd.func128, Tryd.ntmps128
  go_wp2
  go_loopg [8] L.length (fun gk v8 wr => ∃ k : Nat, k + gk = L.length ∧ v8 = .int .i64 k ∧ Aside0 (∀ x, x ∈ L.take k → p x = false) ∧ Aside0 (Below w.heap.size w wr))
  case atStart => exact ⟨0, by omega, rfl, ⟨by simp⟩, ⟨Below.refl _ _⟩⟩
  case round =>
    obtain ⟨k, hk, rfl, hp, hb⟩ := hrel
    have HK := Aside0.mk hk
    by_cases hlt : k < L.length
    · obtain ⟨ad, b, rfl, hbk, hx0, hx1, hx2, hx3, hx4, hx5, hx6, hx7⟩ := at_bk (Kd.C_below HL.out hb.out) k (by omega)
      clear hk
      go_wp2_with (refine (HF.out _ hb.out _ (mem_of hbk.out)).mono ?_; rintro _ w1 ⟨rfl, hb1⟩)
      · rename_i hpb
        go_ret
        exact ⟨ret_int (idxF_hit hp.out hbk.out hpb).symm, bstep hb.out hb1⟩
      · rename_i hpb
        go_roundg (gk - 1)
        case measure => have := HK.out; omega
        case rel => exact ⟨k + 1, by have := HK.out; omega, by go_num, ⟨fun y hy => by rw [take_snoc hbk.out] at hy; rcases List.mem_append.1 hy with hy | hy; exact hp.out y hy; rw [List.mem_singleton.1 hy]; exact hpb⟩, ⟨bstep hb.out hb1⟩⟩
    · clear hk
      go_wp2
      go_ret
      refine ⟨ret_int (idxF_none ?_).symm, hb.out⟩
      have hp1 := hp.out
      rw [List.take_of_length_le (by omega)] at hp1
      exact hp1


theorem containsFuncBk_c (A : Option Addr) (c : Nat) (L : List Bk) (f : FuncId) (cap : Array Value) (p : Bk → Bool) (w : World)
    (hL : kBk.C w A L.length L) (hfn : Fun Tryd.prog f)
    (hf : ∀ W, Below w.heap.size w W → ∀ x, x ∈ L → Calls Tryd.prog f (#[x.val] ++ cap) W (Ret W (.bool (p x)))) :
    Calls Tryd.prog 107 #[.slice A L.length c, .func (.func f) #[] cap] w (Ret w (.bool (L.any p))) := by
  have HI := Aside0.mk (indexFuncBk_c A c L f cap p w hL hfn hf)
  clear hL hfn hf
  go_enter Tryd.func107, Tryd.ntmps107
  go_wp2_with (go_at_call 128; refine HI.out.mono ?_; rintro _ w1 ⟨rfl, hb1⟩)
  all_goals (go_ret; exact ⟨ret_bool (idxF_any L p), hb1⟩)


theorem allCloBk_c (x : Bk) (f : FuncId) (cap : Array Value) (g : Nat) (w : World) (r : Bool) (hc : w.cell? ⟨g, 0, none⟩ = some (.func (.func f) #[] cap)) (hg : g < w.heap.size)
    (hf : ∀ W, Below w.heap.size w W → Calls Tryd.prog f (#[x.val] ++ cap) W (Ret W (.bool r))) (hfn : Fun Tryd.prog f) :
    Calls Tryd.prog 108 #[x.val, .pointer (some ⟨g, 0, none⟩)] w (Ret w (.bool (!r))) := by
  have hcf := hfn.run
  have HF := Aside0.mk hf
  have hca : ∀ o, (w.alloc o).cell? ⟨g, 0, none⟩ = some (.func (.func f) #[] cap) := fun o => (World.cell?_alloc_lt w o _ hg).trans hc
  clear hf hfn
  simp only [Bk.val]
  go_enter Tryd.func108, Tryd.ntmps108
  go_wp2_with (refine (HF.out _ (by first | exact Below.refl _ _ | exact balloc (Below.refl _ _) _)).mono ?_; rintro _ w1 ⟨rfl, hb1⟩)
  all_goals (go_ret; exact ⟨rfl, by first | exact hb1 | exact bstep (balloc (Below.refl _ _) _) hb1⟩)
theorem areAllBk_c (A : Option Addr) (c : Nat) (L : List Bk) (f : FuncId) (cap : Array Value) (p : Bk → Bool) (w : World)
    (hL : kBk.C w A L.length L) (hfn : Fun Tryd.prog f)
    (hf : ∀ W, Below w.heap.size w W → ∀ x, x ∈ L → Calls Tryd.prog f (#[x.val] ++ cap) W (Ret W (.bool (p x)))) :
    Calls Tryd.prog 86 #[.slice A L.length c, .func (.func f) #[] cap] w (Ret w (.bool (L.all p))) := by
  have hcl : ∀ W, Below (w.alloc (.cells #[.func (.func f) #[] cap] 68)).heap.size (w.alloc (.cells #[.func (.func f) #[] cap] 68)) W → ∀ x, x ∈ L →
      Calls Tryd.prog 108 (#[x.val] ++ #[.pointer (some ⟨w.heap.size, 0, none⟩)]) W (Ret W (.bool (!(p x)))) := fun W hW x hx => by
    have h0 : W.cell? ⟨w.heap.size, 0, none⟩ = some (.func (.func f) #[] cap) := by
      rw [hW.cell (by simp)]; exact (blk_cell (blk_new w _) 0).trans rfl
    have hbW : Below w.heap.size w W := bstep (balloc (Below.refl _ _) _) hW
    exact allCloBk_c x f cap w.heap.size W (p x) h0 (by have := hW.size; simp at this; omega) (fun W' hW' => hf W' (bstep hbW hW') x hx) hfn
  have HI := Aside0.mk (containsFuncBk_c A c L 108 #[.pointer (some ⟨w.heap.size, 0, none⟩)] (fun x => !(p x)) (w.alloc (.cells #[.func (.func f) #[] cap] 68)) (Kd.C_alloc hL _) ⟨_, Tryd.func108, rfl, rfl⟩ hcl)
  clear hL hfn hf hcl
  go_enter Tryd.func86, Tryd.ntmps86
  go_wp2_with (go_at_call 107; refine HI.out.mono ?_; rintro _ w1 ⟨rfl, hb1⟩)
  all_goals (go_ret; exact ⟨ret_bool (by rw [List.all_eq_not_any_not]), bstep (balloc (Below.refl _ _) _) hb1⟩)


theorem indexFuncBy_c (A : Option Addr) (c : Nat) (L : List Int) (f : FuncId) (cap : Array Value) (p : Int → Bool) (w : World)
    (hL : (Kd.int .u8).C w A L.length L) (hfn : Fun Tryd.prog f)
    (hf : ∀ W, Below w.heap.size w W → ∀ x, x ∈ L → Calls Tryd.prog f (#[.int .u8 x] ++ cap) W (Ret W (.bool (p x)))) :
    Calls Tryd.prog 127 #[.slice A L.length c, .func (.func f) #[] cap] w (Ret w (.int .i64 (idxF L p))) := by
  have hm := Kd.C_max hL
  have hcf := hfn.run
  have HF := Aside0.mk hf
  have HL := Aside0.mk hL
  clear hf hfn hL
  go_enter Tryd.func127, Tryd.ntmps127
  go_wp2
  go_loopg [8] L.length (fun gk v8 wr => ∃ k : Nat, k + gk = L.length ∧ v8 = .int .i64 k ∧ Aside0 (∀ x, x ∈ L.take k → p x = false) ∧ Aside0 (Below w.heap.size w wr))
  case atStart => exact ⟨0, by omega, rfl, ⟨by simp⟩, ⟨Below.refl _ _⟩⟩
  case round =>
    obtain ⟨k, hk, rfl, hp, hb⟩ := hrel
    have HK := Aside0.mk hk
    by_cases hlt : k < L.length
    · obtain ⟨ad, x, rfl, hbk, hx⟩ := at_int' (Kd.C_below HL.out hb.out) k (by omega)
      clear hk
      go_wp2_with (refine (HF.out _ hb.out _ (mem_of hbk.out)).mono ?_; rintro _ w1 ⟨rfl, hb1⟩)
      · rename_i hpb
        go_ret
        exact ⟨ret_int (idxF_hit hp.out hbk.out hpb).symm, bstep hb.out hb1⟩
      · rename_i hpb
        go_roundg (gk - 1)
        case measure => have := HK.out; omega
        case rel => exact ⟨k + 1, by have := HK.out; omega, by go_num, ⟨fun y hy => by rw [take_snoc hbk.out] at hy; rcases List.mem_append.1 hy with hy | hy; exact hp.out y hy; rw [List.mem_singleton.1 hy]; exact hpb⟩, ⟨bstep hb.out hb1⟩⟩
    · clear hk
      go_wp2
      go_ret
      refine ⟨ret_int (idxF_none ?_).symm, hb.out⟩
      have hp1 := hp.out
      rw [List.take_of_length_le (by omega)] at hp1
      exact hp1


theorem containsFuncBy_c (A : Option Addr) (c : Nat) (L : List Int) (f : FuncId) (cap : Array Value) (p : Int → Bool) (w : World)
    (hL : (Kd.int .u8).C w A L.length L) (hfn : Fun Tryd.prog f)
    (hf : ∀ W, Below w.heap.size w W → ∀ x, x ∈ L → Calls Tryd.prog f (#[.int .u8 x] ++ cap) W (Ret W (.bool (p x)))) :
    Calls Tryd.prog 105 #[.slice A L.length c, .func (.func f) #[] cap] w (Ret w (.bool (L.any p))) := by
  have HI := Aside0.mk (indexFuncBy_c A c L f cap p w hL hfn hf)
  clear hL hfn hf
  go_enter Tryd.func105, Tryd.ntmps105
  go_wp2_with (go_at_call 127; refine HI.out.mono ?_; rintro _ w1 ⟨rfl, hb1⟩)
  all_goals (go_ret; exact ⟨ret_bool (idxF_any L p), hb1⟩)


theorem allCloBy_c (x : Int) (f : FuncId) (cap : Array Value) (g : Nat) (w : World) (r : Bool) (hc : w.cell? ⟨g, 0, none⟩ = some (.func (.func f) #[] cap)) (hg : g < w.heap.size)
    (hf : ∀ W, Below w.heap.size w W → Calls Tryd.prog f (#[.int .u8 x] ++ cap) W (Ret W (.bool r))) (hfn : Fun Tryd.prog f) :
    Calls Tryd.prog 106 #[.int .u8 x, .pointer (some ⟨g, 0, none⟩)] w (Ret w (.bool (!r))) := by
  have hcf := hfn.run
  have HF := Aside0.mk hf
  have hca : ∀ o, (w.alloc o).cell? ⟨g, 0, none⟩ = some (.func (.func f) #[] cap) := fun o => (World.cell?_alloc_lt w o _ hg).trans hc
  clear hf hfn
  go_enter Tryd.func106, Tryd.ntmps106
  go_wp2_with (refine (HF.out _ (by first | exact Below.refl _ _ | exact balloc (Below.refl _ _) _)).mono ?_; rintro _ w1 ⟨rfl, hb1⟩)
  all_goals (go_ret; exact ⟨rfl, by first | exact hb1 | exact bstep (balloc (Below.refl _ _) _) hb1⟩)
theorem areAllBy_c (A : Option Addr) (c : Nat) (L : List Int) (f : FuncId) (cap : Array Value) (p : Int → Bool) (w : World)
    (hL : (Kd.int .u8).C w A L.length L) (hfn : Fun Tryd.prog f)
    (hf : ∀ W, Below w.heap.size w W → ∀ x, x ∈ L → Calls Tryd.prog f (#[.int .u8 x] ++ cap) W (Ret W (.bool (p x)))) :
    Calls Tryd.prog 83 #[.slice A L.length c, .func (.func f) #[] cap] w (Ret w (.bool (L.all p))) := by
  have hcl : ∀ W, Below (w.alloc (.cells #[.func (.func f) #[] cap] 102)).heap.size (w.alloc (.cells #[.func (.func f) #[] cap] 102)) W → ∀ x, x ∈ L →
      Calls Tryd.prog 106 (#[.int .u8 x] ++ #[.pointer (some ⟨w.heap.size, 0, none⟩)]) W (Ret W (.bool (!(p x)))) := fun W hW x hx => by
    have h0 : W.cell? ⟨w.heap.size, 0, none⟩ = some (.func (.func f) #[] cap) := by
      rw [hW.cell (by simp)]; exact (blk_cell (blk_new w _) 0).trans rfl
    have hbW : Below w.heap.size w W := bstep (balloc (Below.refl _ _) _) hW
    exact allCloBy_c x f cap w.heap.size W (p x) h0 (by have := hW.size; simp at this; omega) (fun W' hW' => hf W' (bstep hbW hW') x hx) hfn
  have HI := Aside0.mk (containsFuncBy_c A c L 106 #[.pointer (some ⟨w.heap.size, 0, none⟩)] (fun x => !(p x)) (w.alloc (.cells #[.func (.func f) #[] cap] 102)) (Kd.C_alloc hL _) ⟨_, Tryd.func106, rfl, rfl⟩ hcl)
  clear hL hfn hf hcl
  go_enter Tryd.func83, Tryd.ntmps83
  go_wp2_with (go_at_call 105; refine HI.out.mono ?_; rintro _ w1 ⟨rfl, hb1⟩)
  all_goals (go_ret; exact ⟨ret_bool (by rw [List.all_eq_not_any_not]), bstep (balloc (Below.refl _ _) _) hb1⟩)

end Go.Proofs.YtgibcacciedobaaDoor
