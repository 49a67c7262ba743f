/- A case's text: the program's and the reference's. -/
import Derived.Test.YtgibcacciedobaaDoorTxS
import Derived.Test.YtgibcacciedobaaDoorTxC
import Derived.Test.YtgibcacciedobaaDoorCsValid
import Derived.Test.YtgibcacciedobaaDoorOver
import Derived.Test.YtgibcacciedobaaDoorTail
import Derived.StillTailTactics
import Derived.Still
import Derived.Deep.QuietTactic
import Derived.BigQuiet
import Derived.Deep.RegionLaw
import Derived.Deep.RegionHeld3
namespace Go.Proofs.YtgibcacciedobaaDoor
open Go.RowKit Go.Proofs.YtgibcacciedobaaDoorW.PrintWords Go.Proofs.YtgibcacciedobaaDoorW.PrintMore
set_option linter.unusedVariables false
set_option linter.unusedSimpArgs false
set_option maxRecDepth 100000


set_option maxHeartbeats 2000000 in
theorem eachDecH_c (A : Option Addr) (c : Nat) (L : List Int) (f : FuncId) (p : Int → ByteArray) (w : World) (hL : (Kd.int .i16).C w A L.length L) (hn : L.length ≤ 2097152) (hfn : Fun Tryd.prog f)
    (hf : ∀ W, Below w.heap.size w W → ∀ x, x ∈ L → Calls Tryd.prog f (#[] ++ #[.int .i16 x]) W (Ret W (.string (p x)))) :
    Calls Tryd.prog 102 #[.slice A L.length c, .func (.func f) #[] #[]] w (RetQ w (fun v w' => Kd.string.R 9 w' w.heap.size (fun _ => True) v (L.map p))) := by
  have hm := Kd.C_max hL
  have hcf := hfn.run
  have HF := Aside0.mk hf
  have HX := Aside0.mk hL
  clear hf hfn hL
  go_enter Tryd.func102, Tryd.ntmps102
  go_wp2_with fail
  go_loopg [5, 10] L.length (fun gk v5 v10 wr => ∃ s : Nat, s + gk = L.length ∧ v10 = .int .i64 s ∧ Aside0 (Kd.string.R 9 wr w.heap.size (fun _ => True) v5 ((L.take s).map p)) ∧ Aside0 (Below w.heap.size w wr))
  case atStart => exact ⟨0, by omega, rfl, ⟨Kd.R_nil _ _ _ _ _⟩, ⟨Below.refl _ _⟩⟩
  case round =>
    obtain ⟨s, hk, rfl, HR, hb⟩ := hrel
    have HK := Aside0.mk hk
    by_cases hlt : s < L.length
    · obtain ⟨ad, x, rfl, hbk, hx⟩ := at_int' (Kd.C_below HX.out hb.out) s (by omega)
      have HC := Aside0.mk (HF.out wr hb.out x (mem_of hbk.out))
      have HT := Aside0.mk (show (L.take (s + 1)).map p = (L.take s).map p ++ [p x] by rw [take_snoc hbk.out, List.map_append]; rfl)
      have i0 : (0 : Int) ≤ (s : Int) := by omega
      have i1 : (s : Int) < (L.length : Int) := by omega
      have hlen : ((L.take s).map p).length ≤ 2097152 := by rw [List.length_map, List.length_take]; omega
      generalize p x = z at HC HT
      clear hk
      go_wp2_with fail
      refine HC.out.mono ?_; rintro _ w3 ⟨rfl, hb3⟩
      have HR3 := Aside0.mk (Kd.R_below HR.out hb3)
      have HB3 := Aside0.mk (bstep hb.out hb3)
      clear hb3
      go_wp2_with (at_builtin; refine str_append (w := w) rfl (.tmp 14) (.tmp 18) rfl _ ((L.take s).map p) z rfl rfl HR3.out HB3.out hlen ?_; intro v1 w9 hR1 hB1 _; have HR9 := Aside0.mk hR1; have HB9 := Aside0.mk hB1; clear hR1 hB1)
      go_roundg (gk - 1)
      case measure => have := HK.out; omega
      case rel => exact ⟨s + 1, by have := HK.out; omega, by go_num, ⟨by rw [HT.out]; exact HR9.out⟩, HB9⟩
    · have hs : L.take s = L := List.take_of_length_le (by omega)
      rw [hs] at HR
      clear hk hs
      go_wp2
      go_ret
      exact ⟨_, rfl, hb.out, HR.out⟩

theorem dec32_c (n : Int) (h0 : 0 ≤ n) (h1 : n ≤ 2147483647) (w : World) (ht : Tab w) : Calls Tryd.prog 101 #[.int .i32 n] w (Ret w (.string (bS (dg n)))) := by
  have HF := Aside0.mk (fmt_c n h0 (by omega) w ht)
  have hw : IntKind.i64.wrap n = n := by rw [IntKind.wrap_i64]; omega
  clear ht
  go_enter Tryd.func101, Tryd.ntmps101
  go_wp2_with (go_at_call 97; refine HF.out.mono ?_; rintro _ w1 ⟨rfl, hb1⟩)
  go_ret
  exact ⟨rfl, hb1⟩
section
variable {ops : Array Oper} {o : Oper} {a : Act} {Q : Exit → Act → World → Prop} {Kc : Act → World → Prop}
theorem wp_of_only {P : Program} {w : World} (h : Oper.wp P o a w (fun a' w' => Exit.normal = Exit.normal ∧ Kc a' w') (fun e a' w' => e = Exit.normal ∧ Kc a' w')) : Oper.wp P o a w Kc Q := by
  unfold Oper.wp at *
  generalize (execOp a.eval o).run P w = r at *
  cases r with
  | ok n w' =>
    cases n <;> simp only [Oper.upon] at h ⊢
    case value => exact h.2
    case skip => exact h.2
    case defer => exact h.2
    case row => exact h.mono fun v w2 hh => hh.2
    case enter =>
      refine h.mono fun e w'' hh => ?_
      cases e with
      | returned v => exact hh.2
      | panicked c => cases hh.1
      | outgrown => obtain ⟨_, _, e1, _⟩ := hh; cases e1
    all_goals exact h
  | halt x w' =>
    cases x <;> simp only [Oper.upon] at h ⊢
    case panic => cases h.1
/-- append(out, more...), in a region. -/
theorem str_append_step {w0 W : World} (hgd : o.guard = none) (hw : Region.wanted o (yielded ops a.tmps) = true) (s x : Operand) (ho : o.op = .call { callee := .builtin .append, args := #[s, x], argTypes := #[71, 71] })
    (v : Value) (xs ys : List ByteArray) (A : Option Addr) (m c : Nat) (hs : a.eval s = v) (hx : a.eval x = .slice A m c) (HO : Kd.string.R 9 W w0.heap.size (fun _ => True) v xs) (HR : Kd.string.C W A m ys) (HB : Below w0.heap.size w0 W) (hl : xs.length + m ≤ 2097152)
    (h : ∀ v1 w1, Kd.string.R 9 w1 w0.heap.size (fun _ => True) v1 (xs ++ ys) → Below w0.heap.size w0 w1 → Kc (a.put o.dst v1) w1) :
    if Region.wanted o (yielded ops a.tmps) = true then Oper.wp Tryd.prog o a W Kc Q else Kc (a.put o.dst undef) W := by
  rw [if_pos hw]
  have := Kd.R_append_row (P := Tryd.prog) (ops := ops) (o := o) (rest := []) (a := a) (Q := fun e a' w' => e = .normal ∧ Kc a' w') (w0 := w0) (W := W) Value.string ByteArray.empty (h1 := fun _ => rfl) w0.heap.size hgd s x 71 9 (.string ByteArray.empty) 16 ho Tryd.underlying71 info_str rfl (by decide) v xs ys A m c (fun _ => True) hs hx (fun _ _ => trivial) HO HR HB HB.size (by omega)
    (fun v1 w1 h1 h2 _ _ => ⟨rfl, h v1 w1 h1 h2⟩)
  rw [wpList, if_pos hw] at this
  rcases this with h1 | ⟨_, _, _, e1, _⟩
  · exact wp_of_only h1
  · cases e1
end
/-- A literal of two texts. -/
theorem lit_R (w0 W : World) (x y : ByteArray) (hb : w0.heap.size ≤ W.heap.size) : Kd.string.R 9 (W.alloc (.cells #[.string x, .string y] 9)) w0.heap.size (fun _ => True) (.slice (some ⟨W.heap.size, 0, none⟩) 2 2) [x, y] := by
  refine Kd.R_of_own (enc := Value.string) (h1 := fun _ => rfl) ?_ (fun _ _ => trivial)
  exact World.ownsRow_lit (base := w0.heap.size) (e := 9) (size := 1) W #[.string x, .string y] 2 hb (by decide) rfl
theorem lit_blk (w0 W : World) (g : Nat) (x y : ByteArray) (h : W.heap[g]? = some (.cells #[.string x, .string y] 9 (0, 0))) (hb : w0.heap.size ≤ g) : Kd.string.R 9 W w0.heap.size (fun _ => True) (.slice (some ⟨g, 0, none⟩) 2 2) [x, y] := by
  refine Kd.R_of_own (enc := Value.string) (h1 := fun _ => rfl) ?_ (fun _ _ => trivial)
  exact ⟨rfl, .inr ⟨g, 2, #[.string x, .string y], rfl, hb, h, Nat.le_refl _, by decide, rfl, rfl⟩⟩
theorem str_append_lit {ops : Array Oper} {o : Oper} {a : Act} {Q : Exit → Act → World → Prop} {Kc : Act → World → Prop} {w0 W : World} (hgd : o.guard = none) (hw : Region.wanted o (yielded ops a.tmps) = true) (s x : Operand) (ho : o.op = .call { callee := .builtin .append, args := #[s, x], argTypes := #[71, 71] })
    (g : Nat) (p q : ByteArray) (ys : List ByteArray) (A : Option Addr) (m c : Nat) (hs : a.eval s = .slice (some ⟨g, 0, none⟩) 2 2) (hx : a.eval x = .slice A m c) (hblk : W.heap[g]? = some (.cells #[.string p, .string q] 9 (0, 0))) (hb : w0.heap.size ≤ g) (HR : Kd.string.C W A m ys) (HB : Below w0.heap.size w0 W) (hl : 2 + m ≤ 2097152)
    (h : ∀ v1 w1, Kd.string.R 9 w1 w0.heap.size (fun _ => True) v1 ([p, q] ++ ys) → Below w0.heap.size w0 w1 → Kc (a.put o.dst v1) w1) :
    if Region.wanted o (yielded ops a.tmps) = true then Oper.wp Tryd.prog o a W Kc Q else Kc (a.put o.dst undef) W :=
  str_append_step hgd hw s x ho _ [p, q] ys A m c hs hx (lit_blk w0 W g p q hblk hb) HR HB hl h
theorem csT_join (k : Cs) : Go.Lib.join (csWs k) [32] = csT k := join_joinL 32 _
theorem csT_len {k : Cs} (h : VC1 k) : (csT k).length ≤ 100 := by
  have h1 : ∀ w, w ∈ csWs k → w.length ≤ 6 := by
    intro w hw
    unfold csWs at hw
    rcases List.mem_cons.1 hw with rfl | hw
    · exact dg_len 5 (by have := h.wd; omega) (by have := h.wd; omega)
    · rcases List.mem_cons.1 hw with rfl | hw
      · exact dg_len 5 (by have := h.ld; omega) (by have := h.ld; omega)
      · obtain ⟨x, hx, rfl⟩ := List.mem_map.1 hw
        have := h.h x hx
        exact dg_len 5 (by omega) (by omega)
  have h2 := joinL_len (c := 32) h1
  have := h.n
  unfold csT
  simp only [csWs, List.length_cons, List.length_map] at h2 ⊢
  omega
set_option maxHeartbeats 8000000 in
theorem caseText_c (k : Cs) (A : Option Addr) (c : Nat) (hv : VC1 k) (w : World) (hC : (Kd.int .i16).C w A k.hs.length k.hs) (ht : Tab w) : Calls Tryd.prog 68 #[k.val A c] w (Ret w (.string (bS (csT k)))) := by
  have hbx := CsAt.box w k A c 54
  have hb0 : Below w.heap.size w (w.alloc (.cells #[.int .i16 k.wd, .int .i32 k.ld, .slice A k.hs.length c] 54)) := balloc (Below.refl _ _) _
  have HT := Aside0.mk (ht.below hb0)
  have HC := Aside0.mk (Kd.C_below hC hb0)
  have HV := Aside0.mk hv
  obtain ⟨xs, hxs⟩ : ∃ xs, [bS (dg k.wd), bS (dg k.ld)] ++ k.hs.map (fun n => bS (dg n)) = xs := ⟨_, rfl⟩
  have HXS := Aside0.mk hxs
  simp only [Cs.val]
  clear ht hv hC hxs
  go_enter Tryd.func68, Tryd.ntmps68
  go_wp2_with fail
  generalize World.alloc w _ = W1 at hbx hb0 HT HC ⊢
  generalize w.heap.size = g at hbx ⊢
  have HB0 := Aside0.mk hb0
  have HX := Aside0.mk hbx
  obtain ⟨c0, c1, c2⟩ := hbx
  clear hb0
  go_region_law (first
    | (refine str_append_lit (w0 := W1) rfl (by rfl) (.tmp 9) (.tmp 12) rfl _ (bS (dg k.wd)) (bS (dg k.ld)) (k.hs.map (fun n => bS (dg n))) _ _ _ rfl rfl (blk_below (blk_new wa _) he) HA.out.size HCE.out HE.out (by have := HV.out.n; omega) ?_; intro v9 w9 hR9 hB9; rw [HXS.out] at hR9; obtain ⟨A9, c9, rfl⟩ := Kd.R_slice hR9; have HR9 := Aside0.mk hR9; have HB9 := Aside0.mk hB9; clear hR9 hB9)
    | (refine str_append_lit (w0 := W1) rfl (by rfl) (.tmp 9) (.tmp 12) rfl _ (bS (dg k.wd)) (bS (dg k.ld)) (k.hs.map (fun n => bS (dg n))) _ _ _ rfl rfl (blk_below (blk_new wb _) he) HB.out.size HCE.out HE.out (by have := HV.out.n; omega) ?_; intro v9 w9 hR9 hB9; rw [HXS.out] at hR9; obtain ⟨A9, c9, rfl⟩ := Kd.R_slice hR9; have HR9 := Aside0.mk hR9; have HB9 := Aside0.mk hB9; clear hR9 hB9)
    | (refine str_append_lit (w0 := W1) rfl (by rfl) (.tmp 9) (.tmp 12) rfl _ (bS (dg k.wd)) (bS (dg k.ld)) (k.hs.map (fun n => bS (dg n))) _ _ _ rfl rfl (blk_new wa _) HA.out.size (Kd.C_alloc HCE.out _) (balloc HA.out _) (by have := HV.out.n; omega) ?_; intro v9 w9 hR9 hB9; rw [HXS.out] at hR9; obtain ⟨A9, c9, rfl⟩ := Kd.R_slice hR9; have HR9 := Aside0.mk hR9; have HB9 := Aside0.mk hB9; clear hR9 hB9)
    | (refine str_append_lit (w0 := W1) rfl (by rfl) (.tmp 9) (.tmp 12) rfl _ (bS (dg k.wd)) (bS (dg k.ld)) (k.hs.map (fun n => bS (dg n))) _ _ _ rfl rfl (blk_new wb _) HB.out.size (Kd.C_alloc HCE.out _) (balloc HB.out _) (by have := HV.out.n; omega) ?_; intro v9 w9 hR9 hB9; rw [HXS.out] at hR9; obtain ⟨A9, c9, rfl⟩ := Kd.R_slice hR9; have HR9 := Aside0.mk hR9; have HB9 := Aside0.mk hB9; clear hR9 hB9)
    | (refine str_append_lit (w0 := W1) rfl (by rfl) (.tmp 9) (.tmp 12) rfl _ (bS (dg k.wd)) (bS (dg k.ld)) (k.hs.map (fun n => bS (dg n))) _ _ _ rfl rfl (blk_new we _) HE.out.size (Kd.C_alloc HCE.out _) (balloc HE.out _) (by have := HV.out.n; omega) ?_; intro v9 w9 hR9 hB9; rw [HXS.out] at hR9; obtain ⟨A9, c9, rfl⟩ := Kd.R_slice hR9; have HR9 := Aside0.mk hR9; have HB9 := Aside0.mk hB9; clear hR9 hB9)
    | (go_simp; go_at_call 85; refine (dec16_c k.wd (by have := HV.out.wd; omega) (by have := HV.out.wd; omega) _ (HT.out.below (by first | exact bdrew (Below.refl _ _) | exact HB.out | exact HE.out))).mono ?_; rintro _ wa ⟨rfl, ha⟩; have HA := Aside0.mk (bstep (show Below W1.heap.size W1 _ by first | exact bdrew (Below.refl _ _) | exact HB.out | exact HE.out) ha); obtain ⟨da0, da1, da2⟩ := HX.out.below HA.out; have qa2 := fun (O : Obj) => (World.cell?_alloc_lt wa O ⟨g, 2, none⟩ (World.block_lt_of_cell? wa _ da2)).trans da2; try (have hE2 := Kd.C_below HCE.out ha; clear HCE; have HCE := Aside0.mk hE2; clear hE2))
    | (go_simp; go_at_call 101; refine (dec32_c k.ld (by have := HV.out.ld; omega) (by have := HV.out.ld; omega) _ (HT.out.below (by first | exact bdrew (Below.refl _ _) | exact HA.out | exact HE.out))).mono ?_; rintro _ wb ⟨rfl, hb⟩; have HB := Aside0.mk (bstep (show Below W1.heap.size W1 _ by first | exact bdrew (Below.refl _ _) | exact HA.out | exact HE.out) hb); obtain ⟨db0, db1, db2⟩ := HX.out.below HB.out; have qb2 := fun (O : Obj) => (World.cell?_alloc_lt wb O ⟨g, 2, none⟩ (World.block_lt_of_cell? wb _ db2)).trans db2; try (have hE2 := Kd.C_below HCE.out hb; clear HCE; have HCE := Aside0.mk hE2; clear hE2))
    | (go_simp; go_at_call 102; refine (eachDecH_c A c k.hs 85 (fun n => bS (dg n)) _ (Kd.C_below HC.out (by first | exact bdrew (Below.refl _ _) | exact HA.out | exact HB.out | exact balloc HA.out _ | exact balloc HB.out _)) (by have := HV.out.n; omega) ⟨_, Tryd.func85, rfl, rfl⟩ (fun W hW x hx => dec16_c x (by have := HV.out.h x hx; omega) (by have := HV.out.h x hx; omega) W ((HT.out.below (by first | exact bdrew (Below.refl _ _) | exact HA.out | exact HB.out | exact balloc HA.out _ | exact balloc HB.out _)).below hW))).mono ?_; rintro _ we ⟨ve, rfl, he, hRe⟩; have HE := Aside0.mk (bstep (show Below W1.heap.size W1 _ by first | exact bdrew (Below.refl _ _) | exact HA.out | exact HB.out | exact balloc HA.out _ | exact balloc HB.out _) he); obtain ⟨de0, de1, de2⟩ := HX.out.below HE.out; obtain ⟨Ae, ce, rfl⟩ := Kd.R_slice hRe; have hE9 := (Kd.R_reads' hRe).2.2; rw [List.length_map] at hE9; have HCE := Aside0.mk hE9; clear hE9;  clear hRe)
    | (go_simp; go_at_call 60; refine (join_R (csWs k) [32] _ W1 w9 (List.cons_ne_nil _ _) (by rw [show (csWs k).map bS = xs by rw [← HXS.out]; simp [csWs]]; exact HR9.out) (by have := HV.out.n; simp [csWs]; omega) (by rw [csT_join]; have := csT_len HV.out; omega)).mono ?_; rintro _ wj ⟨rfl, hj⟩))
  all_goals
    (have HJ := Aside0.mk (bstep HB0.out (bstep HB9.out hj))
     clear hj
     go_wp2
     go_ret
     exact ⟨ret_str (by rw [csT_join]), HJ.out⟩)
end Go.Proofs.YtgibcacciedobaaDoor
