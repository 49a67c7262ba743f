/- Numbers of books on shelves: ascending, and the shelf of a book; the program's and the reference's. -/
import Derived.Test.YtdippdkneeocfaaScal
import Derived.Test.YtdippdkneeocfaaValid
import Derived.StillTailTactics
import Derived.Still
import Derived.Deep.QuietTactic
import Derived.BigQuiet
namespace Go.Proofs.Ytdippdkneeocfaa
open Go.RowKit Go.Proofs.YtdippdkneeocfaaW.PrintWords Go.Proofs.YtdippdkneeocfaaW.PrintMore
set_option linter.unusedVariables false
set_option linter.unusedSimpArgs false
set_option maxRecDepth 100000


theorem indexFuncI64_c (A : Option Addr) (c : Nat) (L : List Int) (f : FuncId) (cap : Array Value) (p : Int → Bool) (w : World)
    (hL : (Kd.int .i64).C w A L.length L) (hfn : Fun Try.prog f)
    (hf : ∀ W, Below w.heap.size w W → ∀ x, x ∈ L → Calls Try.prog f (#[.int .i64 x] ++ cap) W (Ret W (.bool (p x)))) :
    Calls Try.prog 191 #[.slice A L.length c, .func (.func f) #[] cap] w (Ret w (.int .i64 (idxF L p))) := by
  have hm := Kd.C_max hL
  have hcf := hfn.run
  have HF := Aside0.mk hf
  have HL := Aside0.mk hL
  clear hf hfn hL
  go_enter Try.func191, Try.ntmps191
  go_wp2
  go_loopg [8] L.length (fun gk v8 wr => ∃ k : Nat, k + gk = L.length ∧ v8 = .int .i64 k ∧ Aside0 (∀ x, x ∈ L.take k → p x = false) ∧ Aside0 (Below w.heap.size w wr))
  case atStart => exact ⟨0, by omega, rfl, ⟨by simp⟩, ⟨Below.refl _ _⟩⟩
  case round =>
    obtain ⟨k, hk, rfl, hp, hb⟩ := hrel
    have HK := Aside0.mk hk
    by_cases hlt : k < L.length
    · obtain ⟨ad, x, rfl, hbk, hx⟩ := at_int' (Kd.C_below HL.out hb.out) k (by omega)
      clear hk
      go_wp2_with (refine (HF.out _ hb.out _ (mem_of hbk.out)).mono ?_; rintro _ w1 ⟨rfl, hb1⟩)
      · rename_i hpb
        go_ret
        exact ⟨ret_int (idxF_hit hp.out hbk.out hpb).symm, bstep hb.out hb1⟩
      · rename_i hpb
        go_roundg (gk - 1)
        case measure => have := HK.out; omega
        case rel => exact ⟨k + 1, by have := HK.out; omega, by go_num, ⟨fun y hy => by rw [take_snoc hbk.out] at hy; rcases List.mem_append.1 hy with hy | hy; exact hp.out y hy; rw [List.mem_singleton.1 hy]; exact hpb⟩, ⟨bstep hb.out hb1⟩⟩
    · clear hk
      go_wp2
      go_ret
      refine ⟨ret_int (idxF_none ?_).symm, hb.out⟩
      have hp1 := hp.out
      rw [List.take_of_length_le (by omega)] at hp1
      exact hp1


theorem containsFuncI64_c (A : Option Addr) (c : Nat) (L : List Int) (f : FuncId) (cap : Array Value) (p : Int → Bool) (w : World)
    (hL : (Kd.int .i64).C w A L.length L) (hfn : Fun Try.prog f)
    (hf : ∀ W, Below w.heap.size w W → ∀ x, x ∈ L → Calls Try.prog f (#[.int .i64 x] ++ cap) W (Ret W (.bool (p x)))) :
    Calls Try.prog 189 #[.slice A L.length c, .func (.func f) #[] cap] w (Ret w (.bool (L.any p))) := by
  have HI := Aside0.mk (indexFuncI64_c A c L f cap p w hL hfn hf)
  clear hL hfn hf
  go_enter Try.func189, Try.ntmps189
  go_wp2_with (go_at_call 191; refine HI.out.mono ?_; rintro _ w1 ⟨rfl, hb1⟩)
  all_goals (go_ret; exact ⟨ret_bool (idxF_any L p), hb1⟩)


theorem allCloI64_c (x : Int) (f : FuncId) (cap : Array Value) (g : Nat) (w : World) (r : Bool) (hc : w.cell? ⟨g, 0, none⟩ = some (.func (.func f) #[] cap)) (hg : g < w.heap.size)
    (hf : ∀ W, Below w.heap.size w W → Calls Try.prog f (#[.int .i64 x] ++ cap) W (Ret W (.bool r))) (hfn : Fun Try.prog f) :
    Calls Try.prog 190 #[.int .i64 x, .pointer (some ⟨g, 0, none⟩)] w (Ret w (.bool (!r))) := by
  have hcf := hfn.run
  have HF := Aside0.mk hf
  have hca : ∀ o, (w.alloc o).cell? ⟨g, 0, none⟩ = some (.func (.func f) #[] cap) := fun o => (World.cell?_alloc_lt w o _ hg).trans hc
  clear hf hfn
  go_enter Try.func190, Try.ntmps190
  go_wp2_with (refine (HF.out _ (by first | exact Below.refl _ _ | exact balloc (Below.refl _ _) _)).mono ?_; rintro _ w1 ⟨rfl, hb1⟩)
  all_goals (go_ret; exact ⟨rfl, by first | exact hb1 | exact bstep (balloc (Below.refl _ _) _) hb1⟩)
theorem areAllI64_c (A : Option Addr) (c : Nat) (L : List Int) (f : FuncId) (cap : Array Value) (p : Int → Bool) (w : World)
    (hL : (Kd.int .i64).C w A L.length L) (hfn : Fun Try.prog f)
    (hf : ∀ W, Below w.heap.size w W → ∀ x, x ∈ L → Calls Try.prog f (#[.int .i64 x] ++ cap) W (Ret W (.bool (p x)))) :
    Calls Try.prog 168 #[.slice A L.length c, .func (.func f) #[] cap] w (Ret w (.bool (L.all p))) := by
  have hcl : ∀ W, Below (w.alloc (.cells #[.func (.func f) #[] cap] 148)).heap.size (w.alloc (.cells #[.func (.func f) #[] cap] 148)) W → ∀ x, x ∈ L →
      Calls Try.prog 190 (#[.int .i64 x] ++ #[.pointer (some ⟨w.heap.size, 0, none⟩)]) W (Ret W (.bool (!(p x)))) := fun W hW x hx => by
    have h0 : W.cell? ⟨w.heap.size, 0, none⟩ = some (.func (.func f) #[] cap) := by
      rw [hW.cell (by simp)]; exact (blk_cell (blk_new w _) 0).trans rfl
    have hbW : Below w.heap.size w W := bstep (balloc (Below.refl _ _) _) hW
    exact allCloI64_c x f cap w.heap.size W (p x) h0 (by have := hW.size; simp at this; omega) (fun W' hW' => hf W' (bstep hbW hW') x hx) hfn
  have HI := Aside0.mk (containsFuncI64_c A c L 190 #[.pointer (some ⟨w.heap.size, 0, none⟩)] (fun x => !(p x)) (w.alloc (.cells #[.func (.func f) #[] cap] 148)) (Kd.C_alloc hL _) ⟨_, Try.func190, rfl, rfl⟩ hcl)
  clear hL hfn hf hcl
  go_enter Try.func168, Try.ntmps168
  go_wp2_with (go_at_call 189; refine HI.out.mono ?_; rintro _ w1 ⟨rfl, hb1⟩)
  all_goals (go_ret; exact ⟨ret_bool (by rw [List.all_eq_not_any_not]), bstep (balloc (Below.refl _ _) _) hb1⟩)

theorem idx_of' {α : Type} (L : List α) (p : α → Bool) : (if idxF L p < 0 then (L.length : Int) else idxF L p) = (L.findIdx p : Nat) := by
  unfold idxF
  by_cases h : L.any p = true
  · rw [if_pos h, if_neg (by omega)]
  · rw [if_neg h, if_pos (by omega)]
    congr 1
    symm
    rw [List.findIdx_eq_length]
    intro x hx
    cases e : p x
    · rfl
    · exact absurd (List.any_eq_true.2 ⟨x, hx, e⟩) h
theorem firstOf64_c (A : Option Addr) (c : Nat) (L : List Int) (f : FuncId) (cap : Array Value) (p : Int → Bool) (w : World) (hL : (Kd.int .i64).C w A L.length L) (hfn : Fun Try.prog f)
    (hf : ∀ W, Below w.heap.size w W → ∀ x, x ∈ L → Calls Try.prog f (#[.int .i64 x] ++ cap) W (Ret W (.bool (p x)))) :
    Calls Try.prog 170 #[.slice A L.length c, .func (.func f) #[] cap] w (Ret w (.int .i64 (L.findIdx p : Nat))) := by
  have hm := Kd.C_max hL
  have HI := Aside0.mk (indexFuncI64_c A c L f cap p w hL hfn hf)
  have HE := Aside0.mk (idx_of' L p)
  clear hL hfn hf
  go_enter Try.func170, Try.ntmps170
  go_wp2_with fail
  refine HI.out.mono ?_; rintro _ w1 ⟨rfl, hb1⟩
  generalize idxF L p = o at HE ⊢
  by_cases hf : o < 0
  · rw [if_pos hf] at HE
    go_wp2_with fail
    go_ret
    exact ⟨ret_int HE.out, hb1⟩
  · rw [if_neg hf] at HE
    go_wp2_with fail
    go_ret
    exact ⟨ret_int HE.out, hb1⟩
/-- The shelf on which a book stands. -/
def shOf (L : List Int) (b : Int) : Nat := L.findIdx (fun e => decide (b < e))
theorem shClo_c (b x : Int) (g : Nat) (w : World) (hc : w.cell? ⟨g, 0, none⟩ = some (.int .i64 b)) :
    Calls Try.prog 171 (#[.int .i64 x] ++ #[.pointer (some ⟨g, 0, none⟩)]) w (Ret w (.bool (decide (b < x)))) := by
  show Calls Try.prog 171 #[.int .i64 x, .pointer (some ⟨g, 0, none⟩)] w _
  go_enter Try.func171, Try.ntmps171
  go_wp2
  all_goals (go_ret; exact ⟨rfl, Below.refl _ _⟩)
theorem shelfOf_c (A : Option Addr) (c : Nat) (L : List Int) (b : Int) (w : World) (hL : (Kd.int .i64).C w A L.length L) :
    Calls Try.prog 125 #[.slice A L.length c, .int .i64 b] w (Ret w (.int .i64 (shOf L b : Nat))) := by
  have HI := Aside0.mk (firstOf64_c A c L 171 #[.pointer (some ⟨w.heap.size, 0, none⟩)] (fun e => decide (b < e)) (w.alloc (.cells #[.int .i64 b] 2)) (Kd.C_alloc hL _) ⟨_, Try.func171, rfl, rfl⟩ (fun W hW x hx => shClo_c b x _ W (by
    rw [hW.cell (by simp)]; exact (blk_cell (blk_new w _) 0).trans rfl)))
  have HB := Aside0.mk (balloc (Below.refl w.heap.size w) (.cells #[.int .i64 b] 2))
  clear hL
  go_enter Try.func125, Try.ntmps125
  go_wp2_with fail
  refine HI.out.mono ?_; rintro _ w1 ⟨rfl, hb1⟩
  have HB1 := Aside0.mk (bstep HB.out hb1)
  clear hb1
  go_wp2_with fail
  go_ret
  exact ⟨rfl, HB1.out⟩
theorem findIdx_hit {α : Type} {L : List α} {p : α → Bool} {k : Nat} {x : α} (h0 : ∀ y, y ∈ L.take k → p y = false) (hx : L[k]? = some x) (hp : p x = true) : L.findIdx p = k := by
  have hl : k < L.length := (List.getElem?_eq_some_iff.1 hx).1
  have hxe : L[k] = x := (List.getElem?_eq_some_iff.1 hx).2
  rw [List.findIdx_eq hl]
  refine ⟨by rw [hxe]; exact hp, fun j hj => ?_⟩
  exact h0 _ (List.mem_take_iff_getElem.2 ⟨j, by omega, rfl⟩)
theorem l02Shelf_c (A : Option Addr) (c : Nat) (L : List Int) (b : Int) (w : World) (hL : (Kd.int .i64).C w A L.length L) (ha : ∃ e, e ∈ L ∧ b < e) :
    Calls Try.prog 123 #[.slice A L.length c, .int .i64 b] w (RetS w (.int .i64 (shOf L b : Nat))) := by
  have hm := Kd.C_max hL
  have HL := Aside0.mk hL
  have HA := Aside0.mk ha
  clear hL ha
  go_enter Try.func123, Try.ntmps123
  go_wp2
  go_loopg [5] L.length (fun gk v wr => ∃ k : Nat, k + gk = L.length ∧ v = .int .i64 k ∧ Aside0 (∀ x, x ∈ L.take k → decide (b < x) = false) ∧ w = wr)
  case atStart => exact ⟨0, by omega, rfl, ⟨by simp⟩, rfl⟩
  case round =>
    obtain ⟨k, hk, rfl, hp, rfl⟩ := hrel
    have HK := Aside0.mk hk
    have hlt : k < L.length := by
      rcases Nat.lt_or_ge k L.length with h | h
      · exact h
      · exfalso
        obtain ⟨e, he, hbe⟩ := HA.out
        have := hp.out e (by rw [List.take_of_length_le h]; exact he)
        simp at this; omega
    obtain ⟨ad, x, rfl, hbk, hx⟩ := at_int' HL.out k (by omega)
    clear hk
    have i0 : (0 : Int) ≤ (k : Int) := by omega
    have i1 : (k : Int) < (L.length : Int) := by omega
    by_cases hbx : b < x
    · have HR := Aside0.mk (show shOf L b = k from findIdx_hit hp.out hbk.out (decide_eq_true hbx))
      go_wp2
      go_ret
      exact ⟨ret_int (by rw [HR.out]), rfl⟩
    · have HR := Aside0.mk (show ∀ y, y ∈ L.take (k + 1) → decide (b < y) = false by
        intro y hy
        rw [take_snoc hbk.out] at hy
        rcases List.mem_append.1 hy with hy | hy
        · exact hp.out y hy
        · rw [List.mem_singleton.1 hy]; exact decide_eq_false hbx)
      go_wp2
      go_roundg (gk - 1)
      case measure => have := HK.out; omega
      case rel => exact ⟨k + 1, by have := HK.out; omega, by go_num, HR, rfl⟩
/-- Ascending from a on, at most 60. -/
def grF : Int → List Int → Bool
  | _, [] => true
  | a, x :: xs => inR x a 60 && grF x xs
def grow (L : List Int) : Bool := grF 0 L
theorem grF_iff (L : List Int) : ∀ a, grF a L = true ↔ L.Pairwise (· ≤ ·) ∧ ∀ x ∈ L, a ≤ x ∧ x ≤ 60 := by
  induction L with
  | nil => intro a; simp [grF]
  | cons x xs ih =>
    intro a
    rw [grF, Bool.and_eq_true, ih x, inR_iff, List.pairwise_cons]
    constructor
    · rintro ⟨h1, h2, h3⟩
      refine ⟨⟨fun y hy => (h3 y hy).1, h2⟩, fun y hy => ?_⟩
      rcases List.mem_cons.1 hy with rfl | hy
      · exact h1
      · have := h3 y hy; omega
    · rintro ⟨⟨h1, h2⟩, h3⟩
      refine ⟨h3 x (by simp), h2, fun y hy => ⟨h1 y hy, (h3 y (by simp [hy])).2⟩⟩
theorem grow_eq (L : List Int) : (decide (L.Pairwise (· ≤ ·)) && L.all (fun x => inR x 0 60)) = grow L := by
  rw [Bool.eq_iff_iff, Bool.and_eq_true, decide_eq_true_eq, List.all_eq_true]
  unfold grow
  rw [grF_iff]
  simp only [inR_iff]
theorem pw_of_adj {L : List Int} (h : ∀ j x y, L[j]? = some x → L[j + 1]? = some y → x ≤ y) : L.Pairwise (· ≤ ·) := by
  rw [List.pairwise_iff_getElem]
  intro i j hi hj hij
  obtain ⟨d, rfl⟩ : ∃ d, j = i + 1 + d := ⟨j - i - 1, by omega⟩
  induction d with
  | zero => exact h i _ _ (List.getElem?_eq_getElem hi) (List.getElem?_eq_getElem hj)
  | succ d ih =>
    have h1 := ih (by omega) (by omega)
    have h2 := h (i + 1 + d) _ _ (List.getElem?_eq_getElem (by omega)) (List.getElem?_eq_getElem hj)
    omega
theorem isNaN64_c (n : Int) (w : World) : Calls Try.prog 200 #[.int .i64 n] w (RetS w (.bool false)) := by
  have h : (n != n) = false := by simp
  go_enter Try.func200, Try.ntmps200
  go_wp2
  go_ret
  exact ⟨ret_bool (by simp), rfl⟩
theorem less64_c (x y : Int) (w : World) : Calls Try.prog 188 #[.int .i64 x, .int .i64 y] w (RetS w (.bool (decide (x < y)))) := by
  go_enter Try.func188, Try.ntmps188
  go_wp2_with (refine (isNaN64_c _ _).mono ?_; rintro _ w1 ⟨rfl, rfl⟩)
  all_goals (go_ret; exact ⟨rfl, rfl⟩)
theorem add_suc (ad : Addr) (k : Nat) : ad.add (k + 1) = ⟨ad.block, ad.off + (k + 1), none⟩ := by simp [Addr.add]
set_option maxHeartbeats 1000000 in
theorem slIsSorted_c (A : Option Addr) (c : Nat) (L : List Int) (w : World) (hL : (Kd.int .i64).C w A L.length L) :
    Calls Try.prog 167 #[.slice A L.length c] w (Ret w (.bool (decide (L.Pairwise (· ≤ ·))))) := by
  have hm := Kd.C_max hL
  have HL := Aside0.mk hL
  clear hL
  have iw : IntKind.i64.wrap ((L.length : Int) - 1) = (L.length : Int) - 1 := by simp only [IntKind.wrap, IntKind.bits, IntKind.signed, Bool.true_and, decide_eq_true_eq, ge_iff_le]; split <;> omega
  go_enter Try.func167, Try.ntmps167
  go_wp2
  go_loopg [3] L.length (fun gk v wr => ∃ v0 : Int, v = .int .i64 v0 ∧ Aside0 (v0 = (gk : Int) - 1 ∧ gk ≤ L.length ∧ ∀ j x y, gk ≤ j + 1 → L[j]? = some x → L[j + 1]? = some y → x ≤ y) ∧ Aside0 (Below w.heap.size w wr))
  case atStart => exact ⟨(L.length : Int) - 1, by first | rw [iw] | rfl, ⟨rfl, by omega, fun j x y h1 h2 h3 => absurd (List.getElem?_eq_some_iff.1 h3).1 (by omega)⟩, ⟨Below.refl _ _⟩⟩
  case round =>
    clear iw
    obtain ⟨v0, rfl, hp, hb⟩ := hrel
    by_cases hlt : 2 ≤ gk
    · obtain ⟨k, hgk⟩ : ∃ k, gk = k + 2 := ⟨gk - 2, by omega⟩
      have hv : v0 = (k : Int) + 1 := by have := hp.out.1; omega
      have hle : k + 1 < L.length := by have := hp.out.2.1; omega
      have HG := Aside0.mk hgk
      clear hgk
      subst hv
      obtain ⟨ad, b, rfl, hbk, x0⟩ := at_int' (Kd.C_below HL.out hb.out) (k + 1) hle
      obtain ⟨ad', b', e', hbk', y0⟩ := at_int' (Kd.C_below HL.out hb.out) k (by omega)
      injection e' with e'
      subst e'
      rw [add_suc] at x0
      have i0 : (0 : Int) ≤ (k : Int) := by omega
      have i1 : (k : Int) + 1 < (L.length : Int) := by omega
      have i2 : (k : Int) < (L.length : Int) := by omega
      have i3 : ((k : Int) + 1).toNat = k + 1 := by omega
      have i4 : (0 : Int) ≤ (k : Int) + 1 := by omega
      have i5 : (0 : Int) < (k : Int) + 1 := by omega
      have iw : IntKind.i64.wrap (k : Int) = (k : Int) := by simp only [IntKind.wrap, IntKind.bits, IntKind.signed, Bool.true_and, decide_eq_true_eq, ge_iff_le]; split <;> omega
      go_wp2_with fail
      go_still_tail 9, (by kernel_rfl)
      go_wp2_with fail
      refine (less64_c _ _ _).mono ?_; rintro _ w1 ⟨rfl, rfl⟩
      by_cases ho : b < b'
      · have HR := Aside0.mk (show ¬ L.Pairwise (· ≤ ·) from fun h => by
          rw [List.pairwise_iff_getElem] at h
          obtain ⟨l1, e1⟩ := List.getElem?_eq_some_iff.1 hbk'.out
          obtain ⟨l2, e2⟩ := List.getElem?_eq_some_iff.1 hbk.out
          have := h k (k + 1) l1 l2 (by omega)
          omega)
        go_wp2
        go_ret
        exact ⟨ret_bool (decide_eq_false HR.out).symm, bdrew hb.out⟩
      · have HR := Aside0.mk (show ∀ j x y, k + 1 ≤ j + 1 → L[j]? = some x → L[j + 1]? = some y → x ≤ y from fun j x y h1 h2 h3 => by
          by_cases e : j = k
          · subst e
            have l1 := hbk'.out
            have l2 := hbk.out
            rw [h2] at l1
            rw [h3] at l2
            injection l1 with l1
            injection l2 with l2
            omega
          · exact hp.out.2.2 j x y (by have := HG.out; omega) h2 h3)
        go_wp2
        go_roundg (gk - 1)
        case measure => have := HG.out; omega
        case rel => exact ⟨(k : Int), by go_num, ⟨by have := HG.out; omega, by have := HG.out; omega, fun j x y h1 h2 h3 => HR.out j x y (by have := HG.out; omega) h2 h3⟩, ⟨bdrew hb.out⟩⟩
    · have HR := Aside0.mk (show L.Pairwise (· ≤ ·) from pw_of_adj fun j x y h2 h3 => hp.out.2.2 j x y (by omega) h2 h3)
      have i3 : v0 ≤ 0 := by have := hp.out.1; omega
      go_wp2
      go_ret
      exact ⟨ret_bool (decide_eq_true HR.out).symm, hb.out⟩
theorem within64_c (n lo hi : Int) (w : World) : Calls Try.prog 129 #[.int .i64 n, .int .i64 lo, .int .i64 hi] w (RetS w (.bool (inR n lo hi))) := by
  go_enter Try.func129, Try.ntmps129
  go_wp2
  all_goals (go_ret; refine ⟨ret_bool ?_, rfl⟩; unfold inR; rw [Bool.eq_iff_iff]; simp; omega)
theorem growClo_c (n : Int) (w : World) : Calls Try.prog 169 #[.int .i64 n] w (RetS w (.bool (inR n 0 60))) := by
  go_enter Try.func169, Try.ntmps169
  go_wp2_with (refine (within64_c _ _ _ _).mono ?_; rintro _ w1 ⟨rfl, rfl⟩)
  all_goals (go_ret; exact ⟨rfl, rfl⟩)
theorem isGrowing_c (A : Option Addr) (c : Nat) (L : List Int) (w : World) (hL : (Kd.int .i64).C w A L.length L) :
    Calls Try.prog 124 #[.slice A L.length c] w (Ret w (.bool (grow L))) := by
  have HS := Aside0.mk (slIsSorted_c A c L w hL)
  have HA := Aside0.mk (fun W h => areAllI64_c A c L 169 #[] (fun x => inR x 0 60) W h ⟨_, Try.func169, rfl, rfl⟩ (fun W hW x hx => (growClo_c x W).mono fun e w' h => h.ret))
  have HE := Aside0.mk (grow_eq L)
  have HL := Aside0.mk hL
  clear hL
  cases h : decide (L.Pairwise (· ≤ ·))
  · rw [h] at HS HE
    clear h
    go_enter Try.func124, Try.ntmps124
    go_wp2_with fail
    refine HS.out.mono ?_; rintro _ w1 ⟨rfl, hb1⟩
    have HB1 := Aside0.mk hb1
    clear hb1
    go_wp2_with fail
    go_ret
    exact ⟨ret_bool HE.out, HB1.out⟩
  · rw [h] at HS HE
    clear h
    go_enter Try.func124, Try.ntmps124
    go_wp2_with fail
    refine HS.out.mono ?_; rintro _ w1 ⟨rfl, hb1⟩
    have HB1 := Aside0.mk hb1
    clear hb1
    go_wp2_with fail
    refine (HA.out _ (Kd.C_below HL.out HB1.out)).mono ?_; rintro _ w2 ⟨rfl, hb2⟩
    have HB2 := Aside0.mk (bstep HB1.out hb2)
    clear hb2
    go_wp2_with fail
    go_ret
    exact ⟨ret_bool HE.out, HB2.out⟩
theorem grF_drop {L : List Int} {k : Nat} {x : Int} (a : Int) (h : L[k]? = some x) : grF a (L.drop k) = (inR x a 60 && grF x (L.drop (k + 1))) := by
  obtain ⟨hl, he⟩ := List.getElem?_eq_some_iff.1 h
  rw [List.drop_eq_getElem_cons hl, he, grF]
theorem l02Numbers_c (A : Option Addr) (c : Nat) (L : List Int) (w : World) (hL : (Kd.int .i64).C w A L.length L) :
    Calls Try.prog 122 #[.slice A L.length c] w (RetS w (.bool (grow L))) := by
  have hm := Kd.C_max hL
  have HL := Aside0.mk hL
  clear hL
  go_enter Try.func122, Try.ntmps122
  go_wp2
  go_loopg [3, 4] L.length (fun gk v3 v wr => ∃ k : Nat, ∃ a : Int, k + gk = L.length ∧ v3 = .int .i64 a ∧ v = .int .i64 k ∧ Aside0 (grF a (L.drop k) = grow L) ∧ w = wr)
  case atStart => exact ⟨0, 0, by omega, rfl, rfl, ⟨rfl⟩, rfl⟩
  case round =>
    obtain ⟨k, a, hk, rfl, rfl, hp, rfl⟩ := hrel
    have HK := Aside0.mk hk
    by_cases hlt : k < L.length
    · obtain ⟨ad, x, rfl, hbk, hx⟩ := at_int' HL.out k (by omega)
      have HW := Aside0.mk (fun W => l00In_c x a 60 W)
      have HD := Aside0.mk (grF_drop a hbk.out)
      rw [hp.out] at HD
      clear hk
      have i0 : (0 : Int) ≤ (k : Int) := by omega
      have i1 : (k : Int) < (L.length : Int) := by omega
      cases hv : inR x a 60
      · rw [hv] at HW HD
        clear hv
        go_wp2_with fail
        refine (HW.out _).mono ?_; rintro _ w1 ⟨rfl, rfl⟩
        go_wp2_with fail
        go_ret
        exact ⟨ret_bool HD.out.symm, rfl⟩
      · rw [hv] at HW HD
        clear hv
        go_wp2_with fail
        refine (HW.out _).mono ?_; rintro _ w1 ⟨rfl, rfl⟩
        go_wp2_with fail
        go_roundg (gk - 1)
        case measure => have := HK.out; omega
        case rel => exact ⟨k + 1, x, by have := HK.out; omega, rfl, by go_num, ⟨HD.out.symm⟩, rfl⟩
    · have HN := Aside0.mk (show grow L = true by rw [← hp.out, List.drop_eq_nil_of_le (by omega)]; rfl)
      clear hk
      go_wp2
      go_ret
      exact ⟨ret_bool HN.out.symm, rfl⟩
end Go.Proofs.Ytdippdkneeocfaa
