/- Lists of books that have to be valid and sorted: the program's code and the reference's. -/
import Derived.Test.YtgdhopcbiekhhaaPlaceM
import Derived.Test.YtgdhopcbiekhhaaRunsV
import Derived.Test.YtgdhopcbiekhhaaAll
import Derived.StillTailTactics
import Derived.Still
namespace Go.Proofs.Ytgdhopcbiekhhaa
open Go.RowKit Go.Proofs.YtgdhopcbiekhhaaW.PrintWords Go.Proofs.YtgdhopcbiekhhaaW.PrintMore
set_option linter.unusedVariables false
set_option linter.unusedSimpArgs false
set_option maxRecDepth 100000

/-- A list of books as a value: its address, its capacity, its books. -/
structure SlB where
  A : Option Addr
  c : Nat
  L : List Bk
def SlB.val (x : SlB) : Value := .slice x.A x.L.length x.c
def kSl : Kd SlB := Kd.flat (fun x => [x.val]) 1 (fun _ => rfl) (fun x u hu => by
  rw [List.mem_singleton.1 hu]
  rfl)
theorem at_sl {xs : List SlB} {w : World} {A : Option Addr} {n : Nat} (h : kSl.C w A n xs) (i : Nat) (hi : i < n) :
    ∃ ad x, A = some ad ∧ Aside0 (xs[i]? = some x) ∧ w.cell? (ad.add i) = some (.slice x.A x.L.length x.c) := by
  have hl : i < xs.length := by have := Kd.C_len h; omega
  obtain ⟨ad, c, e, hc, hK, hcc⟩ := Kd.C_get h xs[i] i (by omega) (by omega)
  rw [Int.toNat_natCast] at hK hcc
  have hx : xs.getD i xs[i] = xs[i] := by simp [List.getD_eq_getElem?_getD, List.getElem?_eq_getElem hl]
  rw [hx] at hK
  have hK' : c = [xs[i].val] := hK
  subst hK'
  have hcc' : ∀ j u, [xs[i].val][j]? = some u → w.cell? (ad.add (i * 1 + j)) = some u := hcc
  have := hcc' 0 _ rfl
  refine ⟨ad, xs[i], e, ⟨List.getElem?_eq_getElem hl⟩, ?_⟩
  rw [show i * 1 + 0 = i by omega] at this
  exact this

theorem indexFuncSl_c (A : Option Addr) (c : Nat) (L : List SlB) (f : FuncId) (cap : Array Value) (p : SlB → Bool) (w : World)
    (hL : kSl.C w A L.length L) (hfn : Fun Try.prog f)
    (hf : ∀ W, Below w.heap.size w W → ∀ x, x ∈ L → Calls Try.prog f (#[x.val] ++ cap) W (Ret W (.bool (p x)))) :
    Calls Try.prog 160 #[.slice A L.length c, .func (.func f) #[] cap] w (Ret w (.int .i64 (idxF L p))) := by
  have hm := Kd.C_max hL
  have hcf := hfn.run
  have HF := Aside0.mk hf
  have HL := Aside0.mk hL
  clear hf hfn hL
  go_enter Try.func160, Try.ntmps160
  go_wp2
  go_loopg [8] L.length (fun gk v8 wr => ∃ k : Nat, k + gk = L.length ∧ v8 = .int .i64 k ∧ Aside0 (∀ x, x ∈ L.take k → p x = false) ∧ Aside0 (Below w.heap.size w wr))
  case atStart => exact ⟨0, by omega, rfl, ⟨by simp⟩, ⟨Below.refl _ _⟩⟩
  case round =>
    obtain ⟨k, hk, rfl, hp, hb⟩ := hrel
    have HK := Aside0.mk hk
    by_cases hlt : k < L.length
    · obtain ⟨ad, b, rfl, hbk, hx0⟩ := at_sl (Kd.C_below HL.out hb.out) k (by omega)
      clear hk
      go_wp2_with (refine (HF.out _ hb.out _ (mem_of hbk.out)).mono ?_; rintro _ w1 ⟨rfl, hb1⟩)
      · rename_i hpb
        go_ret
        exact ⟨ret_int (idxF_hit hp.out hbk.out hpb).symm, bstep hb.out hb1⟩
      · rename_i hpb
        go_roundg (gk - 1)
        case measure => have := HK.out; omega
        case rel => exact ⟨k + 1, by have := HK.out; omega, by go_num, ⟨fun y hy => by rw [take_snoc hbk.out] at hy; rcases List.mem_append.1 hy with hy | hy; exact hp.out y hy; rw [List.mem_singleton.1 hy]; exact hpb⟩, ⟨bstep hb.out hb1⟩⟩
    · clear hk
      go_wp2
      go_ret
      refine ⟨ret_int (idxF_none ?_).symm, hb.out⟩
      have hp1 := hp.out
      rw [List.take_of_length_le (by omega)] at hp1
      exact hp1


theorem containsFuncSl_c (A : Option Addr) (c : Nat) (L : List SlB) (f : FuncId) (cap : Array Value) (p : SlB → Bool) (w : World)
    (hL : kSl.C w A L.length L) (hfn : Fun Try.prog f)
    (hf : ∀ W, Below w.heap.size w W → ∀ x, x ∈ L → Calls Try.prog f (#[x.val] ++ cap) W (Ret W (.bool (p x)))) :
    Calls Try.prog 154 #[.slice A L.length c, .func (.func f) #[] cap] w (Ret w (.bool (L.any p))) := by
  have HI := Aside0.mk (indexFuncSl_c A c L f cap p w hL hfn hf)
  clear hL hfn hf
  go_enter Try.func154, Try.ntmps154
  go_wp2_with (go_at_call 160; refine HI.out.mono ?_; rintro _ w1 ⟨rfl, hb1⟩)
  all_goals (go_ret; exact ⟨ret_bool (idxF_any L p), hb1⟩)


theorem allCloSl_c (x : SlB) (f : FuncId) (cap : Array Value) (g : Nat) (w : World) (r : Bool) (hc : w.cell? ⟨g, 0, none⟩ = some (.func (.func f) #[] cap)) (hg : g < w.heap.size)
    (hf : ∀ W, Below w.heap.size w W → Calls Try.prog f (#[x.val] ++ cap) W (Ret W (.bool r))) (hfn : Fun Try.prog f) :
    Calls Try.prog 155 #[x.val, .pointer (some ⟨g, 0, none⟩)] w (Ret w (.bool (!r))) := by
  have hcf := hfn.run
  have HF := Aside0.mk hf
  have hca : ∀ o, (w.alloc o).cell? ⟨g, 0, none⟩ = some (.func (.func f) #[] cap) := fun o => (World.cell?_alloc_lt w o _ hg).trans hc
  clear hf hfn
  simp only [SlB.val]
  go_enter Try.func155, Try.ntmps155
  go_wp2_with (refine (HF.out _ (by first | exact Below.refl _ _ | exact balloc (Below.refl _ _) _)).mono ?_; rintro _ w1 ⟨rfl, hb1⟩)
  all_goals (go_ret; exact ⟨rfl, by first | exact hb1 | exact bstep (balloc (Below.refl _ _) _) hb1⟩)
theorem areAllSl_c (A : Option Addr) (c : Nat) (L : List SlB) (f : FuncId) (cap : Array Value) (p : SlB → Bool) (w : World)
    (hL : kSl.C w A L.length L) (hfn : Fun Try.prog f)
    (hf : ∀ W, Below w.heap.size w W → ∀ x, x ∈ L → Calls Try.prog f (#[x.val] ++ cap) W (Ret W (.bool (p x)))) :
    Calls Try.prog 147 #[.slice A L.length c, .func (.func f) #[] cap] w (Ret w (.bool (L.all p))) := by
  have hcl : ∀ W, Below (w.alloc (.cells #[.func (.func f) #[] cap] 43)).heap.size (w.alloc (.cells #[.func (.func f) #[] cap] 43)) W → ∀ x, x ∈ L →
      Calls Try.prog 155 (#[x.val] ++ #[.pointer (some ⟨w.heap.size, 0, none⟩)]) W (Ret W (.bool (!(p x)))) := fun W hW x hx => by
    have h0 : W.cell? ⟨w.heap.size, 0, none⟩ = some (.func (.func f) #[] cap) := by
      rw [hW.cell (by simp)]; exact (blk_cell (blk_new w _) 0).trans rfl
    have hbW : Below w.heap.size w W := bstep (balloc (Below.refl _ _) _) hW
    exact allCloSl_c x f cap w.heap.size W (p x) h0 (by have := hW.size; simp at this; omega) (fun W' hW' => hf W' (bstep hbW hW') x hx) hfn
  have HI := Aside0.mk (containsFuncSl_c A c L 155 #[.pointer (some ⟨w.heap.size, 0, none⟩)] (fun x => !(p x)) (w.alloc (.cells #[.func (.func f) #[] cap] 43)) (Kd.C_alloc hL _) ⟨_, Try.func155, rfl, rfl⟩ hcl)
  clear hL hfn hf hcl
  go_enter Try.func147, Try.ntmps147
  go_wp2_with (go_at_call 154; refine HI.out.mono ?_; rintro _ w1 ⟨rfl, hb1⟩)
  all_goals (go_ret; exact ⟨ret_bool (by rw [List.all_eq_not_any_not]), bstep (balloc (Below.refl _ _) _) hb1⟩)

def sCodes (LL : List SlB) : Int := if LL.all (fun x => vBooks x.L) = true then (if LL.all (fun x => isS x.L) = true then 0 else 4) else 1
def sCode (L : List Bk) : Int := if vBooks L = true then (if isS L = true then 0 else 4) else 1
theorem sCodes_one (x : SlB) : sCodes [x] = sCode x.L := by simp [sCodes, sCode]
/-- A box of lists reads as a list of lists. -/
theorem box_Sl (w : World) (xs : List SlB) (hm : xs.length ≤ 9223372036854775807) : kSl.C (w.alloc (.cells (xs.map SlB.val).toArray 40)) (some ⟨w.heap.size, 0, none⟩) xs.length xs := by
  refine ⟨rfl, hm, fun _ => ⟨_, rfl, fun j p hj => ⟨[p.val], rfl, rfl, fun i u hu => ?_⟩⟩⟩
  match i, hu with
  | 0, hu =>
    cases hu
    rw [add_plain, blk_cell (blk_new w _)]
    have : kSl.sz = 1 := rfl
    rw [this]
    simp [hj]
set_option maxHeartbeats 2000000 in
theorem sortedCode_c (A : Option Addr) (c : Nat) (LL : List SlB) (w : World) (hL : kSl.C w A LL.length LL) (hC : ∀ x, x ∈ LL → kBk.C w x.A x.L.length x.L) :
    Calls Try.prog 120 #[.slice A LL.length c] w (Ret w (.int .i64 (sCodes LL))) := by
  have HL := Aside0.mk hL
  have HC := Aside0.mk hC
  have HV := Aside0.mk (fun W (hb : Below w.heap.size w W) => areAllSl_c A c LL 40 #[] (fun x => vBooks x.L) W (Kd.C_below hL hb) ⟨_, Try.func40, rfl, rfl⟩ (fun W' hW' x hx => ValidBooks_c x.A x.c x.L W' (Kd.C_below (Kd.C_below (hC x hx) hb) hW')))
  have HS := Aside0.mk (fun W (hb : Below w.heap.size w W) => areAllSl_c A c LL 110 #[] (fun x => isS x.L) W (Kd.C_below hL hb) ⟨_, Try.func110, rfl, rfl⟩ (fun W' hW' x hx => isSorted_c x.A x.c x.L W' (Kd.C_below (Kd.C_below (hC x hx) hb) hW')))
  clear hL hC
  cases h1 : LL.all (fun x => vBooks x.L)
  · have HR := Aside0.mk (show sCodes LL = 1 by unfold sCodes; rw [h1]; rfl)
    rw [h1] at HV
    clear h1
    go_enter Try.func120, Try.ntmps120
    go_wp2_with fail
    refine (HV.out _ (Below.refl _ _)).mono ?_; rintro _ w1 ⟨rfl, hb1⟩
    go_wp2_with fail
    go_ret
    exact ⟨ret_int HR.out.symm, hb1⟩
  · rw [h1] at HV
    cases h2 : LL.all (fun x => isS x.L)
    · have HR := Aside0.mk (show sCodes LL = 4 by unfold sCodes; rw [h1, h2]; rfl)
      rw [h2] at HS
      clear h1 h2
      go_enter Try.func120, Try.ntmps120
      go_wp2_with fail
      refine (HV.out _ (Below.refl _ _)).mono ?_; rintro _ w1 ⟨rfl, hb1⟩
      have HB1 := Aside0.mk hb1
      clear hb1
      go_wp2_with fail
      refine (HS.out _ HB1.out).mono ?_; rintro _ w2 ⟨rfl, hb2⟩
      have HB2 := Aside0.mk (bstep HB1.out hb2)
      clear hb2
      go_wp2_with fail
      go_ret
      exact ⟨ret_int HR.out.symm, HB2.out⟩
    · have HR := Aside0.mk (show sCodes LL = 0 by unfold sCodes; rw [h1, h2]; rfl)
      rw [h2] at HS
      clear h1 h2
      go_enter Try.func120, Try.ntmps120
      go_wp2_with fail
      refine (HV.out _ (Below.refl _ _)).mono ?_; rintro _ w1 ⟨rfl, hb1⟩
      have HB1 := Aside0.mk hb1
      clear hb1
      go_wp2_with fail
      refine (HS.out _ HB1.out).mono ?_; rintro _ w2 ⟨rfl, hb2⟩
      have HB2 := Aside0.mk (bstep HB1.out hb2)
      clear hb2
      go_wp2_with fail
      go_ret
      exact ⟨ret_int HR.out.symm, HB2.out⟩
/-- One list, in the box of a variadic call. -/
theorem sorted1_c (A : Option Addr) (c : Nat) (L : List Bk) (w : World) (hL : kBk.C w A L.length L) :
    Calls Try.prog 120 #[.slice (some ⟨w.heap.size, 0, none⟩) 1 1] (w.alloc (.cells #[.slice A L.length c] 40)) (Ret (w.alloc (.cells #[.slice A L.length c] 40)) (.int .i64 (sCode L))) := by
  have h := sortedCode_c (some ⟨w.heap.size, 0, none⟩) 1 [⟨A, c, L⟩] _ (box_Sl w [⟨A, c, L⟩] (by simp)) (fun x hx => by rw [List.mem_singleton.1 hx]; exact Kd.C_alloc hL _)
  rw [sCodes_one] at h
  exact h
theorem l01Asked_c (A : Option Addr) (c : Nat) (L : List Bk) (hok : OkL L) (w : World) (hL : kBk.C w A L.length L) :
    Calls Try.prog 119 #[.slice A L.length c] w (Ret w (.int .i64 (sCode L))) := by
  have HL := Aside0.mk hL
  have HO := Aside0.mk hok
  have HV := Aside0.mk (l01Ok_c A c L hok w hL)
  clear hL hok
  cases h1 : vBooks L
  · have HR := Aside0.mk (show sCode L = 1 by unfold sCode; rw [h1]; rfl)
    rw [h1] at HV
    clear h1
    go_enter Try.func119, Try.ntmps119
    go_wp2_with fail
    refine HV.out.mono ?_; rintro _ w1 ⟨rfl, hb1⟩
    go_wp2_with fail
    go_ret
    exact ⟨ret_int HR.out.symm, hb1⟩
  · have HR := Aside0.mk (show sCode L = if outOf L < 0 then 0 else 4 by unfold sCode isS; rw [h1]; simp)
    rw [h1] at HV
    clear h1
    go_enter Try.func119, Try.ntmps119
    go_wp2_with fail
    refine HV.out.mono ?_; rintro _ w1 ⟨rfl, hb1⟩
    go_wp2_with fail
    refine (l01Out_c A c L _ (Kd.C_below HL.out hb1) HO.out).mono ?_; rintro _ w2 ⟨rfl, hb2⟩
    have HB2 := Aside0.mk (bstep hb1 hb2)
    clear hb1 hb2
    generalize outOf L = o at HR ⊢
    by_cases hf : o < 0
    · rw [if_pos hf] at HR
      go_wp2_with fail
      go_ret
      exact ⟨ret_int HR.out.symm, HB2.out⟩
    · rw [if_neg hf] at HR
      go_wp2_with fail
      go_ret
      exact ⟨ret_int HR.out.symm, HB2.out⟩
theorem firstOf_c (A : Option Addr) (c : Nat) (L : List Bk) (f : FuncId) (cap : Array Value) (p : Bk → Bool) (w : World) (hL : kBk.C w A L.length L) (hfn : Fun Try.prog f)
    (hf : ∀ W, Below w.heap.size w W → ∀ x, x ∈ L → Calls Try.prog f (#[x.val] ++ cap) W (Ret W (.bool (p x)))) :
    Calls Try.prog 124 #[.slice A L.length c, .func (.func f) #[] cap] w (Ret w (.int .i64 (L.findIdx p : Nat))) := by
  have hm := Kd.C_max hL
  have HI := Aside0.mk (indexFuncBk_c A c L f cap p w hL hfn hf)
  have HE := Aside0.mk (idx_of L p)
  clear hL hfn hf
  go_enter Try.func124, Try.ntmps124
  go_wp2_with fail
  refine HI.out.mono ?_; rintro _ w1 ⟨rfl, hb1⟩
  generalize idxF L p = o at HE ⊢
  by_cases hf : o < 0
  · rw [if_pos hf] at HE
    go_wp2_with fail
    go_ret
    exact ⟨ret_int HE.out, hb1⟩
  · rw [if_neg hf] at HE
    go_wp2_with fail
    go_ret
    exact ⟨ret_int HE.out, hb1⟩
end Go.Proofs.Ytgdhopcbiekhhaa
