/- Books' texts in plain Lean: what a book's text is, and that it is found again. -/
import Derived.Test.YtgibcacciedobaaDoorTxP
import Derived.Test.YtgibcacciedobaaDoorValid
import Derived.Lib.Join
namespace Go.Proofs.YtgibcacciedobaaDoor
open Go.RowKit Go.Proofs.YtgibcacciedobaaDoorW.PrintWords Go.Proofs.YtgibcacciedobaaDoorW.PrintMore
set_option linter.unusedVariables false
set_option linter.unusedSimpArgs false
set_option maxRecDepth 100000

def mkB (b : Bk) : Bs := [UInt8.ofNat b.m0.toNat, UInt8.ofNat b.m1.toNat, UInt8.ofNat b.m2.toNat]
theorem mkB_str (b : Bk) : strOfNums [b.m0, b.m1, b.m2] = bS (mkB b) := rfl
def bkWs (b : Bk) : List Bs := [dg b.c, mkB b, dg b.v, dg b.wd ++ 120 :: dg b.h, dg b.wt]
/-- The text of a book. -/
def bkT (b : Bk) : Bs := joinL 32 (bkWs b)
theorem bkT_join (b : Bk) : Go.Lib.join [dg b.c, mkB b, dg b.v, dg b.wd ++ 120 :: dg b.h, dg b.wt] [32] = bkT b := by
  simp [Go.Lib.join_cons, Go.Lib.joinTail, bkT, bkWs, joinL]
theorem bkT_eq (b : Bk) : bkT b = dg b.c ++ [32] ++ mkB b ++ [32] ++ dg b.v ++ [32] ++ dg b.wd ++ [120] ++ dg b.h ++ [32] ++ dg b.wt := by
  simp [bkT, bkWs, joinL]
structure VB1 (b : Bk) : Prop where
  c : 0 ≤ b.c ∧ b.c ≤ 999
  m0 : 97 ≤ b.m0 ∧ b.m0 ≤ 122
  m1 : 97 ≤ b.m1 ∧ b.m1 ≤ 122
  m2 : 97 ≤ b.m2 ∧ b.m2 ≤ 122
  v : 1 ≤ b.v ∧ b.v ≤ 99
  wd : 1 ≤ b.wd ∧ b.wd ≤ 100
  h : 50 ≤ b.h ∧ b.h ≤ 400
  wt : 1 ≤ b.wt ∧ b.wt ≤ 9999
theorem vB1 {b : Bk} (h : vBook b = true) : VB1 b := by
  simp only [vBook, vMark, inR, Bool.and_eq_true, decide_eq_true_eq] at h
  obtain ⟨h1, ⟨h2, h3, h4⟩, h5, h6, h7, h8⟩ := h
  exact ⟨h1, h2, h3, h4, h5, h6, h7, h8⟩
theorem mkB_small {b : Bk} (h : VB1 b) {x : UInt8} (hx : x ∈ mkB b) : 97 ≤ x.toNat ∧ x.toNat ≤ 122 := by
  obtain ⟨_, h0, h1, h2, _⟩ := h
  unfold mkB at hx
  simp only [List.mem_cons, List.not_mem_nil, or_false] at hx
  rcases hx with rfl | rfl | rfl <;> (rw [UInt8.toNat_ofNat']; omega)
theorem bkWs_no {b : Bk} (h : VB1 b) : ∀ w, w ∈ bkWs b → (32 : UInt8) ∉ w := by
  intro w hw
  unfold bkWs at hw
  simp only [List.mem_cons, List.not_mem_nil, or_false] at hw
  rcases hw with rfl | rfl | rfl | rfl | rfl
  · exact not_dig (by decide)
  · intro hm
    have := mkB_small h hm
    exact absurd this.1 (by decide)
  · exact not_dig (by decide)
  · intro hm
    rcases List.mem_append.1 hm with hm | hm
    · exact not_dig (by decide) hm
    · rcases List.mem_cons.1 hm with hm | hm
      · exact absurd hm (by decide)
      · exact not_dig (by decide) hm
  · exact not_dig (by decide)
theorem bkT_split {b : Bk} (h : VB1 b) : splitL 32 (bkT b) = bkWs b := splitL_join (List.cons_ne_nil _ _) (bkWs_no h)
theorem sizes_split (b : Bk) : splitL 120 (dg b.wd ++ 120 :: dg b.h) = [dg b.wd, dg b.h] := by
  rw [splitL_cons _ (not_dig (by decide)), splitL_none (not_dig (by decide))]
theorem u8_inj {n m : Int} (h0 : 97 ≤ n ∧ n ≤ 122) (h1 : 97 ≤ m ∧ m ≤ 122) (h : UInt8.ofNat n.toNat = UInt8.ofNat m.toNat) : n = m := by
  have := congrArg UInt8.toNat h
  rw [UInt8.toNat_ofNat', UInt8.toNat_ofNat'] at this
  omega
/-- A text is that of a book. -/
def RdB (l : Bs) (b : Bk) : Prop := vBook b = true ∧ bkT b = l
theorem RdB.unique {l : Bs} {b b' : Bk} (h : RdB l b) (h' : RdB l b') : b = b' := by
  have v := vB1 h.1
  have v' := vB1 h'.1
  have e : bkWs b = bkWs b' := by rw [← bkT_split v, ← bkT_split v', h.2, h'.2]
  unfold bkWs mkB at e
  simp only [List.cons.injEq, and_true] at e
  obtain ⟨e1, ⟨e2, e3, e4⟩, e5, e6, e7⟩ := e
  have e8 := congrArg (splitL 120) e6
  rw [sizes_split, sizes_split] at e8
  simp only [List.cons.injEq, and_true] at e8
  cases b; cases b'
  simp only [Bk.mk.injEq]
  obtain ⟨a1, a2, a3, a4, a5, a6, a7, a8⟩ := v
  obtain ⟨c1, c2, c3, c4, c5, c6, c7, c8⟩ := v'
  exact ⟨dg_inj (by simpa using a1.1) (by simpa using c1.1) e1, u8_inj a2 c2 e2, u8_inj a3 c3 e3, u8_inj a4 c4 e4, dg_inj (by simp at a5; omega) (by simp at c5; omega) e5, dg_inj (by simp at a6; omega) (by simp at c6; omega) e8.1, dg_inj (by simp at a7; omega) (by simp at c7; omega) e8.2, dg_inj (by simp at a8; omega) (by simp at c8; omega) e7⟩
theorem bkT_len {b : Bk} (h : VB1 b) : (bkT b).length ≤ 30 := by
  have h1 := dg_len (n := b.c) 2 h.c.1 (by have := h.c.2; omega)
  have h2 := dg_len (n := b.v) 1 (by have := h.v; omega) (by have := h.v; omega)
  have h3 := dg_len (n := b.wd) 2 (by have := h.wd; omega) (by have := h.wd; omega)
  have h4 := dg_len (n := b.h) 2 (by have := h.h; omega) (by have := h.h; omega)
  have h5 := dg_len (n := b.wt) 3 (by have := h.wt; omega) (by have := h.wt; omega)
  rw [bkT_eq]
  simp only [List.length_append, List.length_cons, List.length_nil, mkB]
  omega
end Go.Proofs.YtgibcacciedobaaDoor
