/- Books read from their texts, in plain Lean. -/
import Derived.Test.YtgibcacciedobaaDoorTxB
import Derived.Lib.ParseIntBTie
namespace Go.Proofs.YtgibcacciedobaaDoor
open Go.RowKit Go.Proofs.YtgibcacciedobaaDoorW.PrintWords Go.Proofs.YtgibcacciedobaaDoorW.PrintMore
set_option linter.unusedVariables false
set_option linter.unusedSimpArgs false
set_option maxRecDepth 100000

/-- The book that is made of five words. -/
def bkOf (w0 w2 w3 w4 : Bs) (x y z : UInt8) : Bk := ⟨shN w0, x.toNat, y.toNat, z.toNat, shN w2, shN (Go.Lib.cut w3 [120]).1, shN (Go.Lib.cut w3 [120]).2.1, shN w4⟩
theorem u8_back {n : Int} (h : 97 ≤ n ∧ n ≤ 122) : ((UInt8.ofNat n.toNat).toNat : Int) = n := by rw [UInt8.toNat_ofNat']; omega
theorem bkOf_back {b : Bk} (h : VB1 b) : bkOf (dg b.c) (dg b.v) (dg b.wd ++ 120 :: dg b.h) (dg b.wt) (UInt8.ofNat b.m0.toNat) (UInt8.ofNat b.m1.toNat) (UInt8.ofNat b.m2.toNat) = b := by
  obtain ⟨h1, h2, h3, h4, h5, h6, h7, h8⟩ := h
  unfold bkOf
  rw [cut_one (not_dig (by decide))]
  simp only
  rw [shN_dg h1.1 (by omega), u8_back h2, u8_back h3, u8_back h4, shN_dg (by omega) (by omega), shN_dg (by omega) (by omega), shN_dg (by omega) (by omega), shN_dg (by omega) (by omega)]
/-- How a book is read: the book of the text, or none. -/
def BkR (l : Bs) (b : Bk) (n : Int) (err : Int) : Prop := (n = 0 ∧ RdB l b) ∨ (n = err ∧ b = ⟨0, 0, 0, 0, 0, 0, 0, 0⟩ ∧ ∀ b', ¬ RdB l b')
theorem BkR.unique {l : Bs} {b b' : Bk} {n n' err : Int} (h : BkR l b n err) (h' : BkR l b' n' err) : b = b' ∧ n = n' := by
  rcases h with ⟨h1, h2⟩ | ⟨h1, h2, h3⟩ <;> rcases h' with ⟨k1, k2⟩ | ⟨k1, k2, k3⟩
  · exact ⟨h2.unique k2, by rw [h1, k1]⟩
  · exact absurd h2 (k3 _)
  · exact absurd k2 (h3 _)
  · exact ⟨by rw [h2, k2], by rw [h1, k1]⟩
theorem rd_words {l : Bs} {b : Bk} (h : RdB l b) : splitL 32 l = bkWs b := by rw [← h.2]; exact bkT_split (vB1 h.1)
theorem rd_none {l : Bs} (h : (splitL 32 l).length ≠ 5) (b : Bk) : ¬ RdB l b := fun hr => h (by rw [rd_words hr]; rfl)
theorem rd_none3 {l w0 w1 w2 w3 w4 : Bs} (h : splitL 32 l = [w0, w1, w2, w3, w4]) (h3 : w1.length ≠ 3) (b : Bk) : ¬ RdB l b := fun hr => by
  have := rd_words hr
  rw [h] at this
  unfold bkWs at this
  simp only [List.cons.injEq] at this
  exact h3 (by rw [this.2.1]; rfl)
theorem rd_five {l w0 w2 w3 w4 : Bs} {x y z : UInt8} (h : splitL 32 l = [w0, [x, y, z], w2, w3, w4]) {b : Bk} (hr : RdB l b) : bkOf w0 w2 w3 w4 x y z = b := by
  have := rd_words hr
  rw [h] at this
  unfold bkWs mkB at this
  simp only [List.cons.injEq, and_true] at this
  obtain ⟨rfl, ⟨rfl, rfl, rfl⟩, rfl, rfl, rfl⟩ := this
  exact bkOf_back (vB1 hr.1)
/-- The program's reading. -/
theorem rd_impl {l w0 w2 w3 w4 : Bs} {x y z : UInt8} (h : splitL 32 l = [w0, [x, y, z], w2, w3, w4]) (err : Int) :
    BkR l (if (vBook (bkOf w0 w2 w3 w4 x y z) && (bkT (bkOf w0 w2 w3 w4 x y z) == l)) = true then bkOf w0 w2 w3 w4 x y z else ⟨0, 0, 0, 0, 0, 0, 0, 0⟩) (if (vBook (bkOf w0 w2 w3 w4 x y z) && (bkT (bkOf w0 w2 w3 w4 x y z) == l)) = true then 0 else err) err := by
  split
  · rename_i hc
    rw [Bool.and_eq_true, beq_iff_eq] at hc
    exact .inl ⟨rfl, hc⟩
  · rename_i hc
    refine .inr ⟨rfl, rfl, fun b hb => hc ?_⟩
    rw [rd_five h hb, Bool.and_eq_true, beq_iff_eq]
    exact hb
/-- The reference's reading: what five numbers give. -/
theorem rd_spec {l w0 w2 w3 w4 p q : Bs} {x y z : UInt8} {a0 a1 a2 a3 a4 : Nat} (h : splitL 32 l = [w0, [x, y, z], w2, w3, w4]) (h3 : splitL 120 w3 = [p, q])
    (n0 : numL w0 = some a0) (n1 : numL w2 = some a1) (n2 : numL p = some a2) (n3 : numL q = some a3) (n4 : numL w4 = some a4) :
    bkT ⟨a0, x.toNat, y.toNat, z.toNat, a1, a2, a3, a4⟩ = l := by
  have e := joinL_split 32 l
  rw [h] at e
  have e3 := joinL_split 120 w3
  rw [h3] at e3
  rw [← e]
  unfold bkT bkWs mkB
  simp only [numL_back n0, numL_back n1, numL_back n2, numL_back n3, numL_back n4]
  have hm : [UInt8.ofNat ((x.toNat : Int)).toNat, UInt8.ofNat ((y.toNat : Int)).toNat, UInt8.ofNat ((z.toNat : Int)).toNat] = [x, y, z] := by simp
  rw [hm, ← e3]
  rfl
/-- A book's words are read by the reference too. -/
theorem rd_spec_words {l w0 w2 w3 w4 : Bs} {x y z : UInt8} (h : splitL 32 l = [w0, [x, y, z], w2, w3, w4]) {b : Bk} (hr : RdB l b) :
    splitL 120 w3 = [dg b.wd, dg b.h] ∧ w0 = dg b.c ∧ w2 = dg b.v ∧ w4 = dg b.wt ∧ x = UInt8.ofNat b.m0.toNat ∧ y = UInt8.ofNat b.m1.toNat ∧ z = UInt8.ofNat b.m2.toNat := by
  have := rd_words hr
  rw [h] at this
  unfold bkWs mkB at this
  simp only [List.cons.injEq, and_true] at this
  obtain ⟨rfl, ⟨rfl, rfl, rfl⟩, rfl, rfl, rfl⟩ := this
  exact ⟨sizes_split b, rfl, rfl, rfl, rfl, rfl, rfl⟩
end Go.Proofs.YtgibcacciedobaaDoor
