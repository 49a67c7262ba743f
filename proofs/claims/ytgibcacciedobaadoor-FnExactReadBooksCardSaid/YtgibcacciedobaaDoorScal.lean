/- The laws' words on rows of whole numbers: copies, comparisons, marks. -/
import Derived.Test.YtgibcacciedobaaDoorOwn
import Derived.StillTailTactics
import Derived.Still
import Derived.Deep.QuietTactic
import Derived.BigQuiet
namespace Go.Proofs.YtgibcacciedobaaDoor
open Go.RowKit Go.Proofs.YtgibcacciedobaaDoorW.PrintWords Go.Proofs.YtgibcacciedobaaDoorW.PrintMore
set_option linter.unusedVariables false
set_option linter.unusedSimpArgs false
set_option maxRecDepth 100000

/-- A row was marked: what it holds, what came back, what else stayed. -/
def Marked {α : Type} (d : Kd α) (e : Nat) (w0 w : World) (v : Value) (ys : List α) (r : Int) (en : Ending) (w' : World) : Prop := en = .returned (.int .i64 r) ∧ Own d e w0 w' v ys ∧ w.grownBy w' v.ownBlock
theorem upM_set {L : List Int} {m : Int} (f : Int → Int) {k : Nat} (h : k < L.length) : ((upI m k).map f ++ L.drop k).set k (f (m + k)) = (upI m (k + 1)).map f ++ L.drop (k + 1) := by
  have hl : ((upI m k).map f).length = k := by rw [List.length_map, upI_len]
  rw [List.set_append_right _ _ (by omega), hl, Nat.sub_self, upI_snoc, List.drop_eq_getElem_cons h, List.set_cons_zero, List.map_append]
  simp
def OkI64 (L : List Int) : Prop := ∀ x, x ∈ L → -9223372036854775808 ≤ x ∧ x ≤ 9223372036854775807
def OkI8 (L : List Int) : Prop := ∀ x, x ∈ L → -128 ≤ x ∧ x ≤ 127
def NewI64 (w : World) (L : List Int) (v : Value) (w' : World) : Prop := (Kd.int .i64).R 2 w' w.heap.size (fun _ => True) v L
theorem NewI64.open {w w' : World} {L : List Int} {v : Value} (h : NewI64 w L v w') : ∃ A c, v = .slice A L.length c ∧ L.length ≤ c ∧ Aside0 ((Kd.int .i64).C w' A L.length L) := by
  obtain ⟨A, c, h1, h2, h3⟩ := Kd.R_reads h
  exact ⟨A, c, h1, h2, ⟨h3⟩⟩
theorem infoI64 : (Tryd.prog.info? 2).map (fun i => (i.zero, i.size, i.bytes)) = some (some (.int .i64 0), 1, 8) := by kernel_rfl
theorem makeI64 {ops : Array Oper} {rest : List Oper} {o : Oper} {a : Act} {Q : Exit → Act → World → Prop} {w W : World} (hgd : o.guard = none) {N : Tmp} (hd : o.dst = some N) (x y : Operand) (ho : o.op = .makeSlice 44 x y) (n : Nat) (hx : a.eval x = .int .i64 n) (hy : a.eval y = .int .i64 n)
    (hn : n ≤ 2097152) (HB : Below w.heap.size w W)
    (h : ∀ v1 w1, (Kd.int .i64).R 2 w1 w.heap.size (fun _ => True) v1 (List.replicate n 0) → Below w.heap.size w w1 → wpList Tryd.prog ops Q rest (a.put o.dst v1) w1) : wpList Tryd.prog ops Q (o :: rest) a W := by
  refine Kd.R_make (Kd.int .i64) (w0 := w) w.heap.size 2 hgd hd 44 x y ho (n : Int) hx hy Tryd.underlying44 _ 8 infoI64 rfl (by decide) (by decide) (0 : Int) (ok := fun _ => True) (okp := fun _ => True) rfl (fun _ h => h) trivial (by omega) (by simp only [Int.toNat_natCast]; omega) HB HB.size ?_
  intro v1 w1 h1 h2 h3 h4
  rw [Int.toNat_natCast] at h1
  exact h v1 w1 h1 h2
set_option maxHeartbeats 1000000 in
theorem toInt64S_c (A : Option Addr) (c : Nat) (L : List Int) (w : World) (hL : (Kd.int .i64).C w A L.length L) (hn : L.length ≤ 2097152) :
    Calls Tryd.prog 27 #[.slice A L.length c] w (RetQ w (NewI64 w L)) := by
  have hm := Kd.C_max hL
  have HL := Aside0.mk hL
  clear hL
  go_enter Tryd.func27, Tryd.ntmps27
  go_wp2_with (refine makeI64 (w := w) rfl (N := 7) rfl (.tmp 6) (.tmp 6) rfl L.length rfl rfl hn (Below.refl _ _) ?_; intro v1 w1 hR hB; have HR := Aside0.mk hR; have HB := Aside0.mk hB; clear hR hB)
  go_loopg [4] L.length (fun gk v wr => ∃ k : Nat, k + gk = L.length ∧ v = .int .i64 k ∧ Aside0 ((Kd.int .i64).R 2 wr w.heap.size (fun _ => True) v1 (L.take k ++ List.replicate (L.length - k) 0)) ∧ Aside0 (Below w.heap.size w wr))
  case atStart => exact ⟨0, by omega, rfl, ⟨by simpa using HR.out⟩, HB⟩
  case round =>
    clear HR HB
    obtain ⟨k, hk, rfl, HR, HB⟩ := hrel
    have HK := Aside0.mk hk
    by_cases hlt : k < L.length
    · obtain ⟨ad, x, rfl, hbk, hx0⟩ := at_int' (Kd.C_below HL.out HB.out) k (by omega)
      obtain ⟨g, cap, e1, gb, gl, cl, HG⟩ := Kd.R_form HR.out (by simp; omega)
      have hlen : (L.take k ++ List.replicate (L.length - k) (0 : Int)).length = L.length := by simp; omega
      rw [hlen] at e1
      subst e1
      obtain ⟨hc, hf⟩ := Kd.R_celln (0 : Int) HR.out (k : Int) (by omega) (by omega)
      have HP := Aside0.mk (Kd.R_putn HR.out (k : Int) x)
      rw [Int.toNat_natCast] at hc hf HP
      rw [set_next hbk.out] at HP
      have HBP := Aside0.mk (Below.setCell HB.out (p := ⟨g, k, none⟩) gb (.int .i64 x))
      have i0 : (0 : Int) ≤ (k : Int) := by omega
      have i1 : (k : Int) < (L.length : Int) := by omega
      clear hk hlen gb cl HG
      go_wp2
      go_roundg (gk - 1)
      case measure => have := HK.out; omega
      case rel => exact ⟨k + 1, by have := HK.out; omega, by go_num, HP, HBP⟩
    · have hkl : k = L.length := by omega
      have HR1 := Aside0.mk (show (Kd.int .i64).R 2 wr w.heap.size (fun _ => True) v1 L by have h1 := HR.out; rw [hkl] at h1; simpa using h1)
      clear hk hkl
      go_wp2
      go_ret
      exact ⟨v1, rfl, HB.out, HR1.out⟩
set_option maxHeartbeats 2000000 in
theorem eqInt64S_c (A A' : Option Addr) (c c' : Nat) (L L' : List Int) (w : World) (hL : (Kd.int .i64).C w A L.length L) (hL' : (Kd.int .i64).C w A' L'.length L') : Calls Tryd.prog 29 #[.slice A L.length c, .slice A' L'.length c'] w (Ret w (.bool (decide (L = L')))) := by
  have hm := Kd.C_max hL
  have hm' := Kd.C_max hL'
  have HL := Aside0.mk hL
  have HL' := Aside0.mk hL'
  clear hL hL'
  by_cases hll : L.length = L'.length
  · have HLL := Aside0.mk hll
    have hb0 : ((L.length : Int) != (L'.length : Int)) = false := by simp [hll]
    have hb0' : (L.length != L'.length) = false := by simp [hll]
    clear hll
    go_enter Tryd.func29, Tryd.ntmps29
    go_wp2
    go_loopg [5] L.length (fun gk v wr => ∃ k : Nat, k + gk = L.length ∧ v = .int .i64 k ∧ Aside0 (L.take k = L'.take k) ∧ Aside0 (Below w.heap.size w wr))
    case atStart => exact ⟨0, by omega, rfl, ⟨by simp⟩, ⟨Below.refl _ _⟩⟩
    case round =>
      clear hb0 hb0'
      obtain ⟨k, hk, rfl, hp, hb⟩ := hrel
      have HK := Aside0.mk hk
      by_cases hlt : k < L.length
      · have hlt' : k < L'.length := by have := HLL.out; omega
        obtain ⟨ad, x, rfl, hbk, x0⟩ := at_int' (Kd.C_below HL.out hb.out) k (by omega)
        obtain ⟨ad', y, rfl, hbk', y0⟩ := at_int' (Kd.C_below HL'.out hb.out) k (by omega)
        clear hk
        have i0 : (0 : Int) ≤ (k : Int) := by omega
        have i1 : (k : Int) < (L.length : Int) := by omega
        have i2 : (k : Int) < (L'.length : Int) := by omega
        by_cases hxy : x = y
        · have HN := Aside0.mk (show L.take (k + 1) = L'.take (k + 1) by rw [take_snoc hbk.out, take_snoc hbk'.out, hp.out, hxy])
          have hd : (x != y) = false := by simp [hxy]
          clear hxy
          go_wp2_with fail
          go_quiet (fail)
          go_wp2
          go_roundg (gk - 1)
          case measure => have := HK.out; omega
          case rel => exact ⟨k + 1, by have := HK.out; omega, by go_num, HN, ⟨bdrewN hb.out _⟩⟩
        · have HN := Aside0.mk (show L ≠ L' from fun h => hxy (by have h1 := hbk.out; rw [h, hbk'.out] at h1; injection h1 with h1; exact h1.symm))
          have hd : (x != y) = true := by simpa using hxy
          clear hxy
          go_wp2_with fail
          go_quiet (fail)
          go_wp2
          go_ret
          exact ⟨ret_bool (decide_eq_false HN.out).symm, bdrewN hb.out _⟩
      · have HE := Aside0.mk (show L = L' by have h1 := hp.out; have h2 := HLL.out; rwa [List.take_of_length_le (by omega), List.take_of_length_le (by omega)] at h1)
        clear hk
        go_wp2
        go_ret
        exact ⟨ret_bool (decide_eq_true HE.out).symm, hb.out⟩
  · have hb0 : ((L.length : Int) != (L'.length : Int)) = true := by simp; omega
    have hb0' : (L.length != L'.length) = true := by simpa using hll
    have HN := Aside0.mk (show L ≠ L' from fun h => hll (by rw [h]))
    clear hll
    go_enter Tryd.func29, Tryd.ntmps29
    go_wp2
    all_goals (go_ret; exact ⟨ret_bool (decide_eq_false HN.out).symm, Below.refl _ _⟩)
set_option maxHeartbeats 1000000 in
theorem markInt64S_c (A : Option Addr) (c : Nat) (L : List Int) (m : Int) (w0 w : World) (hO : Own (Kd.int .i64) 2 w0 w (.slice A L.length c) L) (h0 : 0 ≤ m) (h1 : m ≤ 1000000000) (hn : L.length ≤ 2097152) :
    Calls Tryd.prog 37 #[.slice A L.length c, .int .i64 m] w (Marked (Kd.int .i64) 2 w0 w (.slice A L.length c) ((upI m L.length).map (fun x => x)) (m + L.length)) := by
  have HO := Aside0.mk hO
  clear hO
  go_enter Tryd.func37, Tryd.ntmps37
  go_wp2
  go_loopg [1, 5] L.length (fun gk u v wr => ∃ k : Nat, k + gk = L.length ∧ u = .int .i64 (m + k) ∧ v = .int .i64 k ∧ Aside0 (Own (Kd.int .i64) 2 w0 wr (.slice A L.length c) ((upI m k).map (fun x => x) ++ L.drop k)) ∧ Aside0 (w.grownBy wr (Value.slice A L.length c).ownBlock))
  case atStart => exact ⟨0, by omega, by simp, rfl, ⟨by simpa [upI] using HO.out⟩, ⟨World.grownBy.refl _ _⟩⟩
  case round =>
    clear HO
    obtain ⟨k, hk, rfl, rfl, HR, HG⟩ := hrel
    have HK := Aside0.mk hk
    by_cases hlt : k < L.length
    · have hlen : ((upI m k).map (fun x => x) ++ L.drop k).length = L.length := by simp [upI_len]; omega
      obtain ⟨g, cap, e1, gb, gl, cl, hcl⟩ := Kd.R_form HR.out (by rw [hlen]; omega)
      rw [hlen] at e1
      injection e1 with e1 _ e2
      subst e1 e2
      obtain ⟨hc, hf⟩ := Kd.R_celln (0 : Int) HR.out (k : Int) (by omega) (by omega)
      have hp := Kd.R_putn HR.out (k : Int) (m + (k : Int))
      rw [Int.toNat_natCast] at hc hf hp
      have HP := Aside0.mk (show Own (Kd.int .i64) 2 w0 (wr.setCell ⟨g, k, none⟩ (.int .i64 (m + (k : Int)))) (.slice (some ⟨g, 0, none⟩) L.length c) ((upI m (k + 1)).map (fun x => x) ++ L.drop (k + 1)) by
        rw [upM_set (m := m) (fun x => x) hlt] at hp; exact hp)
      have HGP := Aside0.mk (show w.grownBy (wr.setCell ⟨g, k, none⟩ (.int .i64 (m + (k : Int)))) (Value.slice (some ⟨g, 0, none⟩) L.length c).ownBlock from World.grownBy.trans HG.out ⟨rfl, rfl, rfl, by simp, fun i _ hi => Below.heap_setCell wr ⟨g, k, none⟩ _ i (fun e => hi (by rw [e]; rfl))⟩)
      have i0 : (0 : Int) ≤ (k : Int) := by omega
      have i1 : (k : Int) < (L.length : Int) := by omega
      clear hk hlen gb cl hcl hp HR HG
      go_wp2
      go_roundg (gk - 1)
      case measure => have := HK.out; omega
      case rel => exact ⟨k + 1, by have := HK.out; omega, by go_num, by go_num, HP, HGP⟩
    · have hkl : k = L.length := by omega
      have HE := Aside0.mk (show Own (Kd.int .i64) 2 w0 wr (.slice A L.length c) ((upI m L.length).map (fun x => x)) by have h1 := HR.out; rw [hkl] at h1; simpa using h1)
      have HN := Aside0.mk (show (m + (k : Int)) = m + L.length by omega)
      clear hk hkl
      go_wp2
      go_ret
      exact ⟨ret_int HN.out, HE.out, HG.out⟩
set_option maxHeartbeats 1000000 in
theorem heldInt64S_c (A : Option Addr) (c n : Nat) (m : Int) (w : World) (hL : (Kd.int .i64).C w A n ((upI m n).map (fun x => x))) (h0 : 0 ≤ m) (h1 : m ≤ 1000000000) (hn : n ≤ 2097152) :
    Calls Tryd.prog 38 #[.slice A n c, .int .i64 m] w (RetS w (.int .i64 (m + n))) := by
  have HL := Aside0.mk hL
  clear hL
  go_enter Tryd.func38, Tryd.ntmps38
  go_wp2
  go_loopg [1, 5] n (fun gk u v wr => ∃ k : Nat, k + gk = n ∧ u = .int .i64 (m + k) ∧ v = .int .i64 k ∧ w = wr)
  case atStart => exact ⟨0, by omega, by simp, rfl, rfl⟩
  case round =>
    obtain ⟨k, hk, rfl, rfl, rfl⟩ := hrel
    have HK := Aside0.mk hk
    by_cases hlt : k < n
    · obtain ⟨ad, x, rfl, hx, hc⟩ := at_int' HL.out k (by omega)
      have hxe : x = m + (k : Int) := by
        have h2 := hx.out
        rw [List.getElem?_map, upI_at m hlt] at h2
        simp only [Option.map_some, Option.some.injEq] at h2
        exact h2.symm
      subst hxe
      have i0 : (0 : Int) ≤ (k : Int) := by omega
      have i1 : (k : Int) < (n : Int) := by omega
      have hb : ((m + (k : Int)) != (m + (k : Int))) = false := by simp
      clear hk hx
      go_wp2
      go_roundg (gk - 1)
      case measure => have := HK.out; omega
      case rel => exact ⟨k + 1, by have := HK.out; omega, by go_num, by go_num, rfl⟩
    · have HN := Aside0.mk (show (m + (k : Int)) = m + n by omega)
      clear hk
      go_wp2
      go_ret
      exact ⟨ret_int HN.out, rfl⟩
end Go.Proofs.YtgibcacciedobaaDoor
