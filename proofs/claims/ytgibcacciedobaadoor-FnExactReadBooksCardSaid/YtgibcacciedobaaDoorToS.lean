/- The laws' copies of lists of books. -/
import Derived.Test.YtgibcacciedobaaDoorTo
import Derived.Test.YtgibcacciedobaaDoorMem
namespace Go.Proofs.YtgibcacciedobaaDoor
open Go.RowKit Go.Proofs.YtgibcacciedobaaDoorW.PrintWords Go.Proofs.YtgibcacciedobaaDoorW.PrintMore
set_option linter.unusedVariables false
set_option linter.unusedSimpArgs false
set_option maxRecDepth 100000

theorem szBookS_lt (A : Option Addr) (c : Nat) (n : Nat) (left : Int) (w : World) (hn : n ≤ 9223372036854775807) (h0 : 0 ≤ left) (h1 : left ≤ 1048576) (h : left < (n : Int)) :
    Calls Tryd.prog 14 #[.slice A n c, .int .i64 left] w (RetS w (.int .i64 (-1))) := by
  go_enter Tryd.func14, Tryd.ntmps14
  go_wp2
  all_goals (go_ret; exact ⟨rfl, rfl⟩)
theorem szBookS_ge (A : Option Addr) (c : Nat) (n : Nat) (left : Int) (w : World) (hn : n ≤ 9223372036854775807) (h0 : 0 ≤ left) (h1 : left ≤ 1048576) (h : ¬ left < (n : Int)) :
    Calls Tryd.prog 14 #[.slice A n c, .int .i64 left] w (RetS w (.int .i64 (left - n))) := by
  go_enter Tryd.func14, Tryd.ntmps14
  go_wp2
  all_goals (go_ret; exact ⟨rfl, rfl⟩)
/-- What a copy says: a row of the call's own that holds L. -/
def NewBk (w : World) (L : List Bk) (v : Value) (w' : World) : Prop := kBk.R 27 w' w.heap.size (fun _ => True) v L
/-- What was copied, as a list that is read from there on. -/
theorem NewBk.open {w w' : World} {L : List Bk} {v : Value} (h : NewBk w L v w') : ∃ A c, v = .slice A L.length c ∧ L.length ≤ c ∧ Aside0 (kBk.C w' A L.length L) := by
  obtain ⟨A, c, h1, h2, h3⟩ := Kd.R_reads h
  exact ⟨A, c, h1, h2, ⟨h3⟩⟩
theorem set_next {α : Type} {L : List α} {z : α} {k : Nat} {x : α} (hx : L[k]? = some x) : (L.take k ++ List.replicate (L.length - k) z).set k x = L.take (k + 1) ++ List.replicate (L.length - (k + 1)) z := by
  have hk : k < L.length := (List.getElem?_eq_some_iff.1 hx).1
  have hl : (L.take k).length = k := by rw [List.length_take]; omega
  rw [List.set_append_right _ _ (by omega), hl, Nat.sub_self, take_snoc hx]
  obtain ⟨m, hm⟩ : ∃ m, L.length - k = m + 1 := ⟨L.length - k - 1, by omega⟩
  rw [hm, List.replicate_succ, List.set_cons_zero, show L.length - (k + 1) = m by omega]
  simp
set_option maxHeartbeats 1000000 in
theorem toBookS_c (A : Option Addr) (c : Nat) (L : List Bk) (w : World) (hL : kBk.C w A L.length L) (hn : L.length ≤ 2097152) :
    Calls Tryd.prog 16 #[.slice A L.length c] w (RetQ w (NewBk w L)) := by
  have hm := Kd.C_max hL
  have HL := Aside0.mk hL
  clear hL
  go_enter Tryd.func16, Tryd.ntmps16
  go_wp2_with (refine bk_make (w := w) rfl (N := 7) rfl (.tmp 6) (.tmp 6) rfl L.length rfl rfl hn (Below.refl _ _) ?_; intro v1 w1 hR hB _ _; have HR := Aside0.mk hR; have HB := Aside0.mk hB; clear hR hB)
  go_loopg [4] L.length (fun gk v wr => ∃ k : Nat, k + gk = L.length ∧ v = .int .i64 k ∧ Aside0 (kBk.R 27 wr w.heap.size (fun _ => True) v1 (L.take k ++ List.replicate (L.length - k) zBk)) ∧ Aside0 (Below w.heap.size w wr))
  case atStart => exact ⟨0, by omega, rfl, ⟨by simpa using HR.out⟩, HB⟩
  case round =>
    clear HR HB
    obtain ⟨k, hk, rfl, HR, HB⟩ := hrel
    have HK := Aside0.mk hk
    by_cases hlt : k < L.length
    · obtain ⟨ad, b, rfl, hbk, hx0, hx1, hx2, hx3, hx4, hx5, hx6, hx7⟩ := at_bk (Kd.C_below HL.out HB.out) k (by omega)
      obtain ⟨g, cap, e1, gb, gl, cl, HG⟩ := Kd.R_form HR.out (by simp; omega)
      have hlen : (L.take k ++ List.replicate (L.length - k) zBk).length = L.length := by simp; omega
      rw [hlen] at e1
      subst e1
      clear hk hlen gb gl cl HG
      go_wp2_with (first | (go_at_call 12; refine (toBook_c b wr).mono ?_; rintro _ w2 ⟨rfl, hb2⟩; have HR2 := Aside0.mk (Kd.R_below HR.out hb2); have HB2 := Aside0.mk (bstep HB.out hb2); clear hb2) | (refine bk_store (w := w) w.heap.size rfl rfl (.tmp 21) (.tmp 20) rfl k _ b (fun _ => True) rfl (by omega) rfl HR2.out hlt HB2.out ?_; intro w3 hR3 hB3 hg3; have HR3 := Aside0.mk hR3; have HB3 := Aside0.mk hB3; clear hR3 hB3 hg3))
      go_roundg (gk - 1)
      case measure => have := HK.out; omega
      case rel => exact ⟨k + 1, by have := HK.out; omega, by go_num, ⟨by have := HR3.out; rwa [set_next hbk.out] at this⟩, HB3⟩
    · have hkl : k = L.length := by omega
      have HR1 := Aside0.mk (show kBk.R 27 wr w.heap.size (fun _ => True) v1 L by have h1 := HR.out; rw [hkl] at h1; simpa using h1)
      clear hk hkl
      go_wp2
      go_ret
      exact ⟨v1, rfl, HB.out, HR1.out⟩
end Go.Proofs.YtgibcacciedobaaDoor
