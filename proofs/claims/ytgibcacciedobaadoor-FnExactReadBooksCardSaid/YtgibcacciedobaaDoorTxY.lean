/- The texts of layouts: the program's and the reference's. -/
import Derived.Test.YtgibcacciedobaaDoorTxS
import Derived.Test.YtgibcacciedobaaDoorTxL
import Derived.Test.YtgibcacciedobaaDoorValid
import Derived.StillTailTactics
import Derived.Still
import Derived.Deep.QuietTactic
import Derived.BigQuiet
namespace Go.Proofs.YtgibcacciedobaaDoor
open Go.RowKit Go.Proofs.YtgibcacciedobaaDoorW.PrintWords Go.Proofs.YtgibcacciedobaaDoorW.PrintMore
set_option linter.unusedVariables false
set_option linter.unusedSimpArgs false
set_option maxRecDepth 100000

theorem within64_c (n lo hi : Int) (w : World) : Calls Tryd.prog 72 #[.int .i64 n, .int .i64 lo, .int .i64 hi] w (RetS w (.bool (inR n lo hi))) := by
  go_enter Tryd.func72, Tryd.ntmps72
  go_wp2
  all_goals (go_ret; refine ⟨ret_bool ?_, rfl⟩; unfold inR; rw [Bool.eq_iff_iff]; simp; omega)

theorem indexFuncI64_c (A : Option Addr) (c : Nat) (L : List Int) (f : FuncId) (cap : Array Value) (p : Int → Bool) (w : World)
    (hL : (Kd.int .i64).C w A L.length L) (hfn : Fun Tryd.prog f)
    (hf : ∀ W, Below w.heap.size w W → ∀ x, x ∈ L → Calls Tryd.prog f (#[.int .i64 x] ++ cap) W (Ret W (.bool (p x)))) :
    Calls Tryd.prog 132 #[.slice A L.length c, .func (.func f) #[] cap] w (Ret w (.int .i64 (idxF L p))) := by
  have hm := Kd.C_max hL
  have hcf := hfn.run
  have HF := Aside0.mk hf
  have HL := Aside0.mk hL
  clear hf hfn hL
  go_enter Tryd.func132, Tryd.ntmps132
  go_wp2
  go_loopg [8] L.length (fun gk v8 wr => ∃ k : Nat, k + gk = L.length ∧ v8 = .int .i64 k ∧ Aside0 (∀ x, x ∈ L.take k → p x = false) ∧ Aside0 (Below w.heap.size w wr))
  case atStart => exact ⟨0, by omega, rfl, ⟨by simp⟩, ⟨Below.refl _ _⟩⟩
  case round =>
    obtain ⟨k, hk, rfl, hp, hb⟩ := hrel
    have HK := Aside0.mk hk
    by_cases hlt : k < L.length
    · obtain ⟨ad, x, rfl, hbk, hx⟩ := at_int' (Kd.C_below HL.out hb.out) k (by omega)
      clear hk
      go_wp2_with (refine (HF.out _ hb.out _ (mem_of hbk.out)).mono ?_; rintro _ w1 ⟨rfl, hb1⟩)
      · rename_i hpb
        go_ret
        exact ⟨ret_int (idxF_hit hp.out hbk.out hpb).symm, bstep hb.out hb1⟩
      · rename_i hpb
        go_roundg (gk - 1)
        case measure => have := HK.out; omega
        case rel => exact ⟨k + 1, by have := HK.out; omega, by go_num, ⟨fun y hy => by rw [take_snoc hbk.out] at hy; rcases List.mem_append.1 hy with hy | hy; exact hp.out y hy; rw [List.mem_singleton.1 hy]; exact hpb⟩, ⟨bstep hb.out hb1⟩⟩
    · clear hk
      go_wp2
      go_ret
      refine ⟨ret_int (idxF_none ?_).symm, hb.out⟩
      have hp1 := hp.out
      rw [List.take_of_length_le (by omega)] at hp1
      exact hp1


theorem containsFuncI64_c (A : Option Addr) (c : Nat) (L : List Int) (f : FuncId) (cap : Array Value) (p : Int → Bool) (w : World)
    (hL : (Kd.int .i64).C w A L.length L) (hfn : Fun Tryd.prog f)
    (hf : ∀ W, Below w.heap.size w W → ∀ x, x ∈ L → Calls Tryd.prog f (#[.int .i64 x] ++ cap) W (Ret W (.bool (p x)))) :
    Calls Tryd.prog 118 #[.slice A L.length c, .func (.func f) #[] cap] w (Ret w (.bool (L.any p))) := by
  have HI := Aside0.mk (indexFuncI64_c A c L f cap p w hL hfn hf)
  clear hL hfn hf
  go_enter Tryd.func118, Tryd.ntmps118
  go_wp2_with (go_at_call 132; refine HI.out.mono ?_; rintro _ w1 ⟨rfl, hb1⟩)
  all_goals (go_ret; exact ⟨ret_bool (idxF_any L p), hb1⟩)


theorem allCloI64_c (x : Int) (f : FuncId) (cap : Array Value) (g : Nat) (w : World) (r : Bool) (hc : w.cell? ⟨g, 0, none⟩ = some (.func (.func f) #[] cap)) (hg : g < w.heap.size)
    (hf : ∀ W, Below w.heap.size w W → Calls Tryd.prog f (#[.int .i64 x] ++ cap) W (Ret W (.bool r))) (hfn : Fun Tryd.prog f) :
    Calls Tryd.prog 119 #[.int .i64 x, .pointer (some ⟨g, 0, none⟩)] w (Ret w (.bool (!r))) := by
  have hcf := hfn.run
  have HF := Aside0.mk hf
  have hca : ∀ o, (w.alloc o).cell? ⟨g, 0, none⟩ = some (.func (.func f) #[] cap) := fun o => (World.cell?_alloc_lt w o _ hg).trans hc
  clear hf hfn
  go_enter Tryd.func119, Tryd.ntmps119
  go_wp2_with (refine (HF.out _ (by first | exact Below.refl _ _ | exact balloc (Below.refl _ _) _)).mono ?_; rintro _ w1 ⟨rfl, hb1⟩)
  all_goals (go_ret; exact ⟨rfl, by first | exact hb1 | exact bstep (balloc (Below.refl _ _) _) hb1⟩)
theorem areAllI64_c (A : Option Addr) (c : Nat) (L : List Int) (f : FuncId) (cap : Array Value) (p : Int → Bool) (w : World)
    (hL : (Kd.int .i64).C w A L.length L) (hfn : Fun Tryd.prog f)
    (hf : ∀ W, Below w.heap.size w W → ∀ x, x ∈ L → Calls Tryd.prog f (#[.int .i64 x] ++ cap) W (Ret W (.bool (p x)))) :
    Calls Tryd.prog 94 #[.slice A L.length c, .func (.func f) #[] cap] w (Ret w (.bool (L.all p))) := by
  have hcl : ∀ W, Below (w.alloc (.cells #[.func (.func f) #[] cap] 97)).heap.size (w.alloc (.cells #[.func (.func f) #[] cap] 97)) W → ∀ x, x ∈ L →
      Calls Tryd.prog 119 (#[.int .i64 x] ++ #[.pointer (some ⟨w.heap.size, 0, none⟩)]) W (Ret W (.bool (!(p x)))) := fun W hW x hx => by
    have h0 : W.cell? ⟨w.heap.size, 0, none⟩ = some (.func (.func f) #[] cap) := by
      rw [hW.cell (by simp)]; exact (blk_cell (blk_new w _) 0).trans rfl
    have hbW : Below w.heap.size w W := bstep (balloc (Below.refl _ _) _) hW
    exact allCloI64_c x f cap w.heap.size W (p x) h0 (by have := hW.size; simp at this; omega) (fun W' hW' => hf W' (bstep hbW hW') x hx) hfn
  have HI := Aside0.mk (containsFuncI64_c A c L 119 #[.pointer (some ⟨w.heap.size, 0, none⟩)] (fun x => !(p x)) (w.alloc (.cells #[.func (.func f) #[] cap] 97)) (Kd.C_alloc hL _) ⟨_, Tryd.func119, rfl, rfl⟩ hcl)
  clear hL hfn hf hcl
  go_enter Tryd.func94, Tryd.ntmps94
  go_wp2_with (go_at_call 118; refine HI.out.mono ?_; rintro _ w1 ⟨rfl, hb1⟩)
  all_goals (go_ret; exact ⟨ret_bool (by rw [List.all_eq_not_any_not]), bstep (balloc (Below.refl _ _) _) hb1⟩)

theorem ltClo_c (n : Int) (w : World) : Calls Tryd.prog 95 #[.int .i64 n] w (Ret w (.bool (inR n 0 60))) := by
  have HI := Aside0.mk (within64_c n 0 60 w)
  go_enter Tryd.func95, Tryd.ntmps95
  go_wp2_with (go_at_call 72; refine HI.out.mono ?_; rintro _ w1 ⟨rfl, rfl⟩)
  go_ret
  exact ⟨rfl, Below.refl _ _⟩
theorem withinL_c (n lo hi : Int) (w : World) : Calls Tryd.prog 73 #[.int .i64 n, .int .i64 lo, .int .i64 hi] w (RetS w (.bool (inR n lo hi))) := by
  go_enter Tryd.func73, Tryd.ntmps73
  go_wp2
  all_goals (go_ret; refine ⟨ret_bool ?_, rfl⟩; unfold inR; rw [Bool.eq_iff_iff]; simp; omega)
set_option maxHeartbeats 2000000 in
theorem isLayoutText_c (A : Option Addr) (c : Nat) (E : List Int) (w : World) (hE : (Kd.int .i64).C w A E.length E) : Calls Tryd.prog 59 #[.slice A E.length c] w (Ret w (.bool (plainE E))) := by
  have hm := Kd.C_max hE
  have HA := Aside0.mk (areAllI64_c A c E 95 #[] (fun x => inR x 0 60) w hE ⟨_, Tryd.func95, rfl, rfl⟩ (fun W _ x _ => ltClo_c x W))
  have HI := Aside0.mk (withinL_c (E.length : Int) 1 12 w)
  clear hE
  cases h : inR (E.length : Int) 1 12
  · have HV := Aside0.mk (show plainE E = false by unfold plainE; rw [h]; rfl)
    rw [h] at HI
    clear h
    go_enter Tryd.func59, Tryd.ntmps59
    go_wp2_with (go_at_call 73; refine HI.out.mono ?_; rintro _ w1 ⟨rfl, rfl⟩)
    go_ret
    exact ⟨ret_bool HV.out.symm, Below.refl _ _⟩
  · have HV := Aside0.mk (show plainE E = E.all (fun x => inR x 0 60) by unfold plainE; rw [h]; rfl)
    rw [h] at HI
    generalize E.all (fun x => inR x 0 60) = b at HV HA
    clear h
    go_enter Tryd.func59, Tryd.ntmps59
    go_wp2_with fail
    refine HI.out.mono ?_; rintro _ w1 ⟨rfl, rfl⟩
    go_wp2_with fail
    refine HA.out.mono ?_; rintro _ w2 ⟨rfl, hb2⟩
    go_wp2
    go_ret
    exact ⟨ret_bool HV.out.symm, hb2⟩
set_option maxHeartbeats 2000000 in
theorem l02Plain_c (A : Option Addr) (c : Nat) (E : List Int) (w : World) (hE : (Kd.int .i64).C w A E.length E) : Calls Tryd.prog 57 #[.slice A E.length c] w (Ret w (.bool (plainE E))) := by
  have hm := Kd.C_max hE
  have HL := Aside0.mk hE
  clear hE
  go_enter Tryd.func57, Tryd.ntmps57
  go_wp2
  go_loopg [3] E.length (fun gk v wr => ∃ k : Nat, k + gk = E.length ∧ v = .int .i64 k ∧ Aside0 (∀ x, x ∈ E.take k → inR x 0 60 = true) ∧ Aside0 (Below w.heap.size w wr))
  case atStart => exact ⟨0, by omega, rfl, ⟨by simp⟩, ⟨Below.refl _ _⟩⟩
  case round =>
    obtain ⟨k, hk, rfl, hp, hb⟩ := hrel
    have HK := Aside0.mk hk
    by_cases hlt : k < E.length
    · obtain ⟨ad, x, rfl, hbk, hx⟩ := at_int' (Kd.C_below HL.out hb.out) k (by omega)
      have HA := Aside0.mk (l00In_c x 0 60 wr)
      clear hk
      cases hvb : inR x 0 60
      · have HV := Aside0.mk (all_hit (p := fun x => inR x 0 60) hbk.out hvb)
        rw [hvb] at HA
        clear hvb
        go_wp2_with (go_at_call 80; refine HA.out.mono ?_; rintro _ w1 ⟨rfl, rfl⟩)
        all_goals (go_ret; exact ⟨ret_bool (by unfold plainE; rw [HV.out, Bool.and_false]), hb.out⟩)
      · have HV := Aside0.mk (all_next (p := fun x => inR x 0 60) hp.out hbk.out hvb)
        rw [hvb] at HA
        clear hvb
        go_wp2_with (go_at_call 80; refine HA.out.mono ?_; rintro _ w1 ⟨rfl, rfl⟩)
        go_roundg (gk - 1)
        case measure => have := HK.out; omega
        case rel => exact ⟨k + 1, by have := HK.out; omega, by go_num, HV, hb⟩
    · have HV := Aside0.mk (all_end (p := fun x => inR x 0 60) hp.out (by omega))
      have HA := Aside0.mk (l00In_c (E.length : Int) 1 12 wr)
      clear hk
      go_wp2_with (go_at_call 80; refine HA.out.mono ?_; rintro _ w1 ⟨rfl, rfl⟩)
      go_ret
      exact ⟨ret_bool (by unfold plainE; rw [HV.out, Bool.and_true]), hb.out⟩
theorem lyT_next {E : List Int} {k : Nat} {x : Int} (h0 : 1 ≤ k) (hx : E[k]? = some x) : lyT (E.take (k + 1)) = lyT (E.take k) ++ 44 :: dg x := by
  unfold lyT
  have hl : k < E.length := (List.getElem?_eq_some_iff.1 hx).1
  rw [take_snoc hx, List.map_append]
  exact joinL_snoc 44 _ _ (by
    intro h
    have := congrArg List.length h
    rw [List.length_map, List.length_take, List.length_nil] at this
    omega)
theorem lyT_one {E : List Int} {x : Int} (hx : E[0]? = some x) : lyT (E.take 1) = dg x := by
  unfold lyT
  rw [show E.take 1 = E.take 0 ++ [x] from take_snoc hx]
  rfl
theorem PlE.take {E : List Int} (h : PlE E) {k : Nat} (h0 : 1 ≤ k) : PlE (E.take k) := ⟨by have := h.n; rw [List.length_take]; omega, fun x hx => h.x x (List.mem_of_mem_take hx)⟩
set_option maxHeartbeats 2000000 in
theorem l02EndsText_c (A : Option Addr) (c : Nat) (E : List Int) (hp : PlE E) (w : World) (hE : (Kd.int .i64).C w A E.length E) : Calls Tryd.prog 58 #[.slice A E.length c] w (Ret w (.string (bS (lyT E)))) := by
  have hm := Kd.C_max hE
  have HL := Aside0.mk hE
  have HP := Aside0.mk hp
  have hn := hp.n
  obtain ⟨ad, x0, rfl, hx0, hc0⟩ := at_int' hE 0 (by omega)
  have HX0 := Aside0.mk (lyT_one hx0.out)
  have hr0 := hp.x x0 (mem_of hx0.out)
  have HD := Aside0.mk (Decimal_c (x0.toNat + 1) x0 (by omega) hr0.1 (by omega) w)
  have i0 : (0 : Int) < (E.length : Int) := by omega
  rw [show ad.add 0 = ad by cases ad; rfl] at hc0
  clear hE hp
  go_enter Tryd.func58, Tryd.ntmps58
  go_wp2_with fail
  refine HD.out.mono ?_; rintro _ w1 ⟨rfl, hb1⟩
  go_wp2_with fail
  go_loopg [3, 4] (E.length - 1) (fun gk v3 v4 wr => ∃ k : Nat, k + gk = E.length ∧ 1 ≤ k ∧ v4 = .int .i64 k ∧ v3 = .string (bS (lyT (E.take k))) ∧ Aside0 (Below w.heap.size w wr))
  case atStart => exact ⟨1, by omega, by omega, rfl, by rw [HX0.out], ⟨hb1⟩⟩
  case round =>
    clear hb1
    obtain ⟨k, hk, hk1, rfl, rfl, hb⟩ := hrel
    have HK := Aside0.mk hk
    by_cases hlt : k < E.length
    · obtain ⟨ad', x, e9, hbk, hx⟩ := at_int' (Kd.C_below HL.out hb.out) k (by omega)
      obtain rfl := Option.some.inj e9
      have hr := HP.out.x x (mem_of hbk.out)
      have HD := Aside0.mk (Decimal_c (x.toNat + 1) x (by omega) hr.1 (by omega) wr)
      have hs := lyT_len (HP.out.take (k := k) hk1)
      have HT := Aside0.mk (lyT_next hk1 hbk.out)
      have hd := dg_len (n := x) 4 hr.1 (by omega)
      generalize lyT (E.take k) = z at hs HT ⊢
      have s1 : ¬ (9223372036854775807 < 1 + (bS (dg x)).size) := by rw [bS_size]; omega
      have s2 : ¬ (9223372036854775807 < (bS z).size + (1 + (bS (dg x)).size)) := by rw [bS_size, bS_size]; omega
      have HS := Aside0.mk (show bS z ++ (({ data := #[44] } : ByteArray) ++ bS (dg x)) = bS (lyT (E.take (k + 1))) by rw [HT.out, show ({ data := #[44] } : ByteArray) = bS [44] from rfl, bS_append, bS_append]; rfl)
      have i1 : (0 : Int) ≤ (k : Int) := by omega
      have i2 : (k : Int) < (E.length : Int) := by omega
      clear hk hs hd hr
      go_wp2_with (go_at_call 81; refine HD.out.mono ?_; rintro _ w1 ⟨rfl, hb1⟩)
      go_roundg (gk - 1)
      case measure => have := HK.out; omega
      case rel => exact ⟨k + 1, by have := HK.out; omega, by omega, by go_num, by rw [HS.out], ⟨bstep hb.out hb1⟩⟩
    · have HT := Aside0.mk (show E.take k = E from List.take_of_length_le (by omega))
      clear hk
      go_wp2
      go_ret
      exact ⟨ret_str (by rw [HT.out]), hb.out⟩
end Go.Proofs.YtgibcacciedobaaDoor
