/- Rows of texts that a call makes; their join. -/
import Derived.Test.YtgibcacciedobaaDoorTxE
import Derived.Test.YtgibcacciedobaaDoorRow
import Derived.StillTailTactics
import Derived.Still
import Derived.Deep.QuietTactic
import Derived.BigQuiet
namespace Go.Proofs.YtgibcacciedobaaDoor
open Go.RowKit Go.Proofs.YtgibcacciedobaaDoorW.PrintWords Go.Proofs.YtgibcacciedobaaDoorW.PrintMore
set_option linter.unusedVariables false
set_option linter.unusedSimpArgs false
set_option maxRecDepth 100000

theorem info_str : (Tryd.prog.info? 9).map (fun i => (i.zero, i.size, i.bytes)) = some (some (.string ByteArray.empty), 1, 16) := by kernel_rfl
section
variable {ops : Array Oper} {rest : List Oper} {o : Oper} {a : Act} {Q : Exit → Act → World → Prop}
/-- append(out, s). -/
theorem str_append {w W : World} (hgd : o.guard = none) (s x : Operand) (ho : o.op = .call { callee := .builtin .append, args := #[s, x], argTypes := #[71, 71] }) (v : Value) (xs : List ByteArray) (n : ByteArray)
    (hs : a.eval s = v) (hx : a.eval x = .slice (some ⟨W.heap.size, 0, none⟩) 1 1) (HO : Kd.string.R 9 W w.heap.size (fun _ => True) v xs) (HB : Below w.heap.size w W) (hl : xs.length ≤ 2097152)
    (h : ∀ v1 w1, Kd.string.R 9 w1 w.heap.size (fun _ => True) v1 (xs ++ [n]) → Below w.heap.size w w1 → W.grownBy w1 v.ownBlock → wpList Tryd.prog ops Q rest (a.put o.dst v1) w1) :
    wpList Tryd.prog ops Q (o :: rest) a (W.alloc (.cells #[.string n] 9)) :=
  Kd.R_append Kd.string (w0 := w) w.heap.size hgd s x 71 9 (.string ByteArray.empty) 16 ho Tryd.underlying71 info_str rfl (by decide) (by decide) v xs n [.string n] (fun _ => True) (fun _ => False) hs hx rfl (fun _ h => h.elim) (fun _ _ => trivial) HO HB HB.size (by omega)
    (fun v1 w1 h1 h2 h3 _ => h v1 w1 h1 h2 h3)
end
/-- A row of texts joined. -/
theorem join_R (L : List Bs) (sep : Bs) (v : Value) (w0 w : World) (hne : L ≠ []) (h : Kd.string.R 9 w w0.heap.size (fun _ => True) v (L.map bS)) (hn : L.length ≤ 2097152) (hl : (Go.Lib.join L sep).length ≤ 1000000) :
    Calls Tryd.prog 60 #[v, .string (bS sep)] w (Ret w (.string (bS (Go.Lib.join L sep)))) := by
  have hp : 0 < (L.map bS).length := by rw [List.length_map]; exact List.length_pos_iff.2 hne
  obtain ⟨g, cap, rfl, _, hg, _⟩ := Kd.R_form h hp
  have hcap := (Kd.R_reads' h).2.1
  have e : (L.map bS).map (fun x : ByteArray => x.data.toList) = L := by rw [List.map_map]; exact map_back (fun x _ => bS_toList x)
  have hj := Tryd.strings_Join g 0 cap (L.map bS) (bS sep) w (fun j x hj => by
    have hjl : j < (L.map bS).length := (List.getElem?_eq_some_iff.1 hj).1
    have := (Kd.R_cell ByteArray.empty h (j : Int) (by omega) (by omega)).1
    rw [Int.toNat_natCast] at this
    rw [Nat.zero_add, this, show Go.Proofs.YtgibcacciedobaaDoorW.PrintWords.rdOf ByteArray.empty (L.map bS) (j : Int) = x by
      unfold Go.Proofs.YtgibcacciedobaaDoorW.PrintWords.rdOf
      rw [Int.toNat_natCast, List.getD_eq_getElem?_getD, hj]
      rfl]) hg (by rw [List.length_map]; omega) hcap (by rw [e, bS_toList]; omega)
  rw [e, bS_toList] at hj
  exact hj

set_option maxHeartbeats 2000000 in
theorem eachDecI_c (A : Option Addr) (c : Nat) (L : List Int) (f : FuncId) (p : Int → ByteArray) (w : World) (hL : (Kd.int .i64).C w A L.length L) (hn : L.length ≤ 2097152) (hfn : Fun Tryd.prog f)
    (hf : ∀ W, Below w.heap.size w W → ∀ x, x ∈ L → Calls Tryd.prog f (#[] ++ #[.int .i64 x]) W (Ret W (.string (p x)))) :
    Calls Tryd.prog 61 #[.slice A L.length c, .func (.func f) #[] #[]] w (RetQ w (fun v w' => Kd.string.R 9 w' w.heap.size (fun _ => True) v (L.map p))) := by
  have hm := Kd.C_max hL
  have hcf := hfn.run
  have HF := Aside0.mk hf
  have HX := Aside0.mk hL
  clear hf hfn hL
  go_enter Tryd.func61, Tryd.ntmps61
  go_wp2_with fail
  go_loopg [5, 10] L.length (fun gk v5 v10 wr => ∃ s : Nat, s + gk = L.length ∧ v10 = .int .i64 s ∧ Aside0 (Kd.string.R 9 wr w.heap.size (fun _ => True) v5 ((L.take s).map p)) ∧ Aside0 (Below w.heap.size w wr))
  case atStart => exact ⟨0, by omega, rfl, ⟨Kd.R_nil _ _ _ _ _⟩, ⟨Below.refl _ _⟩⟩
  case round =>
    obtain ⟨s, hk, rfl, HR, hb⟩ := hrel
    have HK := Aside0.mk hk
    by_cases hlt : s < L.length
    · obtain ⟨ad, x, rfl, hbk, hx⟩ := at_int' (Kd.C_below HX.out hb.out) s (by omega)
      have HC := Aside0.mk (HF.out wr hb.out x (mem_of hbk.out))
      have HT := Aside0.mk (show (L.take (s + 1)).map p = (L.take s).map p ++ [p x] by rw [take_snoc hbk.out, List.map_append]; rfl)
      have i0 : (0 : Int) ≤ (s : Int) := by omega
      have i1 : (s : Int) < (L.length : Int) := by omega
      have hlen : ((L.take s).map p).length ≤ 2097152 := by rw [List.length_map, List.length_take]; omega
      generalize p x = z at HC HT
      clear hk
      go_wp2_with fail
      refine HC.out.mono ?_; rintro _ w3 ⟨rfl, hb3⟩
      have HR3 := Aside0.mk (Kd.R_below HR.out hb3)
      have HB3 := Aside0.mk (bstep hb.out hb3)
      clear hb3
      go_wp2_with (at_builtin; refine str_append (w := w) rfl (.tmp 14) (.tmp 18) rfl _ ((L.take s).map p) z rfl rfl HR3.out HB3.out hlen ?_; intro v1 w9 hR1 hB1 _; have HR9 := Aside0.mk hR1; have HB9 := Aside0.mk hB1; clear hR1 hB1)
      go_roundg (gk - 1)
      case measure => have := HK.out; omega
      case rel => exact ⟨s + 1, by have := HK.out; omega, by go_num, ⟨by rw [HT.out]; exact HR9.out⟩, HB9⟩
    · have hs : L.take s = L := List.take_of_length_le (by omega)
      rw [hs] at HR
      clear hk hs
      go_wp2
      go_ret
      exact ⟨_, rfl, hb.out, HR.out⟩

theorem dec64_c (n : Int) (h0 : 0 ≤ n) (h1 : n ≤ 9223372036854775807) (w : World) (ht : Tab w) : Calls Tryd.prog 62 #[.int .i64 n] w (Ret w (.string (bS (dg n)))) := by
  have HF := Aside0.mk (fmt_c n h0 (by omega) w ht)
  clear ht
  go_enter Tryd.func62, Tryd.ntmps62
  go_wp2_with (go_at_call 97; refine HF.out.mono ?_; rintro _ w1 ⟨rfl, hb1⟩)
  go_ret
  exact ⟨rfl, hb1⟩
end Go.Proofs.YtgibcacciedobaaDoor
