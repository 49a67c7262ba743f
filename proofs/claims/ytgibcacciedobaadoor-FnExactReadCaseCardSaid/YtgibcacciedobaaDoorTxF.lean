/- ReadCase: the program's. -/
import Derived.Test.YtgibcacciedobaaDoorTxQ
import Derived.Test.YtgibcacciedobaaDoorTxG
import Derived.Test.YtgibcacciedobaaDoorTxC
import Derived.Test.YtgibcacciedobaaDoorCase
import Derived.Test.YtgibcacciedobaaDoorCsValid
import Derived.Test.YtgibcacciedobaaDoorSpec
import Derived.StillTailTactics
import Derived.Still
import Derived.Deep.QuietTactic
import Derived.BigQuiet
namespace Go.Proofs.YtgibcacciedobaaDoor
open Go.RowKit Go.Proofs.YtgibcacciedobaaDoorW.PrintWords Go.Proofs.YtgibcacciedobaaDoorW.PrintMore
set_option linter.unusedVariables false
set_option linter.unusedSimpArgs false
set_option maxRecDepth 100000

section
variable {ops : Array Oper} {rest : List Oper} {o : Oper} {a : Act} {Q : Exit → Act → World → Prop}
/-- append(out, n). -/
theorem i16_append {w W : World} (hgd : o.guard = none) (s x : Operand) (ho : o.op = .call { callee := .builtin .append, args := #[s, x], argTypes := #[49, 49] }) (v : Value) (xs : List Int) (n : Int)
    (hs : a.eval s = v) (hx : a.eval x = .slice (some ⟨W.heap.size, 0, none⟩) 1 1) (HO : (Kd.int .i16).R 22 W w.heap.size (fun _ => True) v xs) (HB : Below w.heap.size w W) (hl : xs.length ≤ 2097152)
    (h : ∀ v1 w1, (Kd.int .i16).R 22 w1 w.heap.size (fun _ => True) v1 (xs ++ [n]) → Below w.heap.size w w1 → W.grownBy w1 v.ownBlock → wpList Tryd.prog ops Q rest (a.put o.dst v1) w1) :
    wpList Tryd.prog ops Q (o :: rest) a (W.alloc (.cells #[.int .i16 n] 22)) :=
  Kd.R_append (Kd.int .i16) (w0 := w) w.heap.size hgd s x 49 22 (.int .i16 0) 2 ho Tryd.underlying49 (by kernel_rfl) rfl (by decide) (by decide) v xs n [.int .i16 n] (fun _ => True) (fun _ => False) hs hx rfl (fun _ h => h.elim) (fun _ _ => trivial) HO HB HB.size (by omega)
    (fun v1 w1 h1 h2 h3 _ => h v1 w1 h1 h2 h3)
end
theorem at_bs {L : List ByteArray} {w : World} {A : Option Addr} {n : Nat} (h : Kd.string.C w A n L) (i : Nat) (hi : i < n) (hn : n = L.length) :
    ∃ ad x, A = some ad ∧ Aside0 (L[i]? = some x) ∧ w.cell? (ad.add i) = some (.string x) := by
  obtain ⟨ad, e, hx⟩ := Kd.at_string h (i : Int) (by omega) (by omega)
  have hl : i < L.length := by omega
  refine ⟨ad, L[i], e, ⟨List.getElem?_eq_getElem hl⟩, ?_⟩
  rw [Int.toNat_natCast] at hx
  rw [hx]
  unfold Go.Proofs.YtgibcacciedobaaDoorW.PrintWords.rdOf
  rw [Int.toNat_natCast, List.getD_eq_getElem?_getD, List.getElem?_eq_getElem hl]
  rfl

set_option maxHeartbeats 2000000 in
theorem eachShD_c (A : Option Addr) (c : Nat) (L : List ByteArray) (f : FuncId) (p : ByteArray → Int) (w : World) (hL : Kd.string.C w A L.length L) (hn : L.length ≤ 2097152) (hfn : Fun Tryd.prog f)
    (hf : ∀ W, Below w.heap.size w W → ∀ x, x ∈ L → Calls Tryd.prog f (#[] ++ #[.string x]) W (Ret W (.int .i16 (p x)))) :
    Calls Tryd.prog 75 #[.slice A L.length c, .func (.func f) #[] #[]] w (RetQ w (fun v w' => (Kd.int .i16).R 22 w' w.heap.size (fun _ => True) v (L.map p))) := by
  have hm := Kd.C_max hL
  have hcf := hfn.run
  have HF := Aside0.mk hf
  have HX := Aside0.mk hL
  clear hf hfn hL
  go_enter Tryd.func75, Tryd.ntmps75
  go_wp2_with fail
  go_loopg [5, 10] L.length (fun gk v5 v10 wr => ∃ s : Nat, s + gk = L.length ∧ v10 = .int .i64 s ∧ Aside0 ((Kd.int .i16).R 22 wr w.heap.size (fun _ => True) v5 ((L.take s).map p)) ∧ Aside0 (Below w.heap.size w wr))
  case atStart => exact ⟨0, by omega, rfl, ⟨Kd.R_nil _ _ _ _ _⟩, ⟨Below.refl _ _⟩⟩
  case round =>
    obtain ⟨s, hk, rfl, HR, hb⟩ := hrel
    have HK := Aside0.mk hk
    by_cases hlt : s < L.length
    · obtain ⟨ad, x, rfl, hbk, hx⟩ := at_bs (Kd.C_below HX.out hb.out) s (by omega) rfl
      have HC := Aside0.mk (HF.out wr hb.out x (mem_of hbk.out))
      have HT := Aside0.mk (show (L.take (s + 1)).map p = (L.take s).map p ++ [p x] by rw [take_snoc hbk.out, List.map_append]; rfl)
      have i0 : (0 : Int) ≤ (s : Int) := by omega
      have i1 : (s : Int) < (L.length : Int) := by omega
      have hlen : ((L.take s).map p).length ≤ 2097152 := by rw [List.length_map, List.length_take]; omega
      generalize p x = z at HC HT
      clear hk
      go_wp2_with fail
      refine HC.out.mono ?_; rintro _ w3 ⟨rfl, hb3⟩
      have HR3 := Aside0.mk (Kd.R_below HR.out hb3)
      have HB3 := Aside0.mk (bstep hb.out hb3)
      clear hb3
      go_wp2_with (at_builtin; refine i16_append (w := w) rfl (.tmp 14) (.tmp 18) rfl _ ((L.take s).map p) z rfl rfl HR3.out HB3.out hlen ?_; intro v1 w9 hR1 hB1 _; have HR9 := Aside0.mk hR1; have HB9 := Aside0.mk hB1; clear hR1 hB1)
      go_roundg (gk - 1)
      case measure => have := HK.out; omega
      case rel => exact ⟨s + 1, by have := HK.out; omega, by go_num, ⟨by rw [HT.out]; exact HR9.out⟩, HB9⟩
    · have hs : L.take s = L := List.take_of_length_le (by omega)
      rw [hs] at HR
      clear hk hs
      go_wp2
      go_ret
      exact ⟨_, rfl, hb.out, HR.out⟩

theorem eachShort_c (A : Option Addr) (c : Nat) (r : List Bs) (w : World) (hC : Kd.string.C w A r.length (r.map bS)) (hn : r.length ≤ 2097152) (hl : ∀ t ∈ r, t.length ≤ 1048576) (ht : Txt w) :
    Calls Tryd.prog 75 #[.slice A r.length c, .func (.func 74) #[] #[]] w (RetQ w (fun v w' => (Kd.int .i16).R 22 w' w.heap.size (fun _ => True) v (r.map shN))) := by
  have h := eachShD_c A c (r.map bS) 74 (fun x => shN x.data.toList) w (by rw [List.length_map]; exact hC) (by rw [List.length_map]; exact hn) ⟨_, Tryd.func74, rfl, rfl⟩ (fun W hW x hx => by
    obtain ⟨t, hm, rfl⟩ := List.mem_map.1 hx
    rw [bS_toList]
    exact short_c t (hl t hm) W (ht.below hW))
  rw [List.length_map, List.map_map] at h
  have e : r.map ((fun x : ByteArray => shN x.data.toList) ∘ bS) = r.map shN := List.map_congr_left (fun t _ => by show shN (bS t).data.toList = shN t; rw [bS_toList])
  rw [e] at h
  exact h
abbrev Cs0 : Cs := ⟨0, 0, []⟩
open Classical in
/-- The case of a text, none if there is none. -/
noncomputable def crV (l : Bs) : Cs := if h : ∃ k, RdC l k then Classical.choose h else Cs0
open Classical in
noncomputable def crE (l : Bs) : Int := if ∃ k, RdC l k then 0 else 5
theorem cr_ok {l : Bs} {k : Cs} (h : RdC l k) : crV l = k ∧ crE l = 0 := by
  have hx : ∃ k, RdC l k := ⟨k, h⟩
  unfold crV crE
  rw [dif_pos hx, if_pos hx]
  exact ⟨(Classical.choose_spec hx).unique h, rfl⟩
theorem cr_no {l : Bs} (h : ∀ k, ¬ RdC l k) : crV l = Cs0 ∧ crE l = 5 := by
  have hx : ¬ ∃ k, RdC l k := fun ⟨k, hk⟩ => h k hk
  unfold crV crE
  rw [dif_neg hx, if_neg hx]
  exact ⟨rfl, rfl⟩
theorem cr_of {l : Bs} {k : Cs} {n : Int} (h : CsR l k n 5) : crV l = k ∧ crE l = n := by
  rcases h with ⟨rfl, h⟩ | ⟨rfl, rfl, h⟩
  · exact cr_ok h
  · exact cr_no h
/-- A case handed back, its row new, and a code. -/
def TupC (w : World) (k : Cs) (e : Int) (v : Value) (w' : World) : Prop := ∃ A c, v = .tuple #[k.val A c, .int .i64 e] ∧ k.hs.length ≤ c ∧ (Kd.int .i16).R 22 w' w.heap.size (fun _ => True) (.slice A k.hs.length c) k.hs
theorem tupC_no {w : World} {l : Bs} (h : crV l = Cs0 ∧ crE l = 5) {W : World} : TupC w (crV l) (crE l) (.tuple #[Cs0.val none 0, .int .i64 5]) W := by
  rw [h.1, h.2]
  exact ⟨none, 0, rfl, Nat.le_refl _, Kd.R_nil _ _ _ _ _⟩
theorem splitL_mem32 (c : UInt8) : ∀ (l : Bs) (w : Bs), w ∈ splitL c l → w.length ≤ l.length
  | [], w, h => by rw [splitL, List.mem_singleton] at h; rw [h]; exact Nat.le_refl _
  | x :: l, w, h => by
    have ih := splitL_mem32 c l
    rw [splitL] at h
    split at h
    · rcases List.mem_cons.1 h with rfl | h
      · exact Nat.zero_le _
      · exact Nat.le_succ_of_le (ih w h)
    · split at h
      · rw [List.mem_singleton] at h
        rw [h]
        simp
      · rename_i v r hs
        rcases List.mem_cons.1 h with rfl | h
        · have := ih v (by rw [hs]; simp)
          simp only [List.length_cons]
          omega
        · exact Nat.le_succ_of_le (ih w (by rw [hs]; simp [h]))
theorem two_up {α : Type} {l : List α} (h : 2 ≤ l.length) : ∃ a b r, l = a :: b :: r := by
  match l, h with
  | a :: b :: r, _ => exact ⟨a, b, r, rfl⟩
/-- A case stored over a case. -/
def put3c (W : World) (g : Nat) (a b : Int) (v : Value) : World := ((W.setCell ⟨g, 0, none⟩ (.int .i16 a)).setCell ⟨g, 1, none⟩ (.int .i32 b)).setCell ⟨g, 2, none⟩ v
theorem put3c_blk {W : World} {g : Nat} {t : TypeId} {z0 z1 z2 : Value} (a b : Int) (v : Value) (h : W.heap[g]? = some (.cells #[z0, z1, z2] t (0, 0))) : (put3c W g a b v).heap[g]? = some (.cells #[.int .i16 a, .int .i32 b, v] t (0, 0)) := by
  unfold put3c
  have h7 := blk_set (blk_set (blk_set h 0 (.int .i16 a)) 1 (.int .i32 b)) 2 v
  simpa only [List.setIfInBounds_toArray, List.set_cons_zero, List.set_cons_succ] using h7
theorem put3c_far {W : World} {g g' : Nat} {t : TypeId} {cs : Array Value} (a b : Int) (v : Value) (h : W.heap[g']? = some (.cells cs t (0, 0))) (hg : g' ≠ g) : (put3c W g a b v).heap[g']? = some (.cells cs t (0, 0)) :=
  blk_far (blk_far (blk_far h (p := ⟨g, 0, none⟩) hg _) (p := ⟨g, 1, none⟩) hg _) (p := ⟨g, 2, none⟩) hg _
theorem put3c_below {w W : World} {g : Nat} (a b : Int) (v : Value) (h : Below w.heap.size w W) (hg : w.heap.size ≤ g) : Below w.heap.size w (put3c W g a b v) := by
  unfold put3c
  exact Below.setCell (Below.setCell (Below.setCell h (p := ⟨g, 0, none⟩) hg _) (p := ⟨g, 1, none⟩) hg _) (p := ⟨g, 2, none⟩) hg _
set_option maxHeartbeats 2000000 in
theorem ReadCase_c (l : Bs) (hl : l.length ≤ 1048576) (w : World) (ht : Txt w) : Calls Tryd.prog 40 #[.string (bS l)] w (RetQ w (TupC w (crV l) (crE l))) := by
  have hb0 : Below w.heap.size w (w.alloc (.cells #[.int .i16 0, .int .i32 0, .slice none 0 0] 54)) := balloc (Below.refl _ _) _
  have hbx := blk_new w (.cells #[.int .i16 0, .int .i32 0, .slice none 0 0] 54)
  have HS := Aside0.mk (fun W h => split_c 32 l hl W h)
  have HML := Aside0.mk (fun x hx => Nat.le_trans (splitL_mem32 32 l x hx) hl)
  have HT := Aside0.mk (ht.below hb0)
  have HT0 := Aside0.mk ht
  clear ht
  have HW := Aside0.mk (fun W => withinL_c ((splitL 32 l).length : Int) 3 14 W)
  cases hi : inR ((splitL 32 l).length : Int) 3 14
  · have HN := Aside0.mk (cr_no (l := l) (fun k hk => by have := rdc_len hk; rw [show inR ((splitL 32 l).length : Int) 3 14 = true from inR_iff.2 ⟨by omega, by omega⟩] at hi; cases hi))
    rw [hi] at HW
    clear hi
    generalize splitL 32 l = ws at HS HML HW
    go_enter Tryd.func40, Tryd.ntmps40
    go_wp2_with fail
    generalize World.alloc w _ = W1 at hbx hb0 HT ⊢
    refine (HS.out W1 HT.out).mono ?_; rintro _ w1 ⟨_, rfl, hb1, A1, c1_, rfl, hc1, hC1⟩
    have HB1 := Aside0.mk (bstep hb0 hb1)
    have hx1 := blk_below hbx hb1
    clear hb1 hC1 hbx HT
    have c0 := blk_cell hx1 0
    have f0 := blk_frozen hx1 0
    have c1 := blk_cell hx1 1
    have f1 := blk_frozen hx1 1
    have c2 := blk_cell hx1 2
    have f2 := blk_frozen hx1 2
    simp only [List.getElem?_toArray, List.getElem?_cons_zero, List.getElem?_cons_succ] at c0 c1 c2
    go_wp2_with fail
    refine (HW.out _).mono ?_; rintro _ w2 ⟨rfl, rfl⟩
    go_wp2
    refine bodyPost_ret (v := .tuple #[Cs0.val none 0, .int .i64 5]) (by simp [results, Tryd.results40, go_sem, c0, c1, c2, f0, f1, f2, Cs.val]) rfl ⟨_, rfl, ?_, tupC_no HN.out⟩
    repeat (refine Below.setCell ?_ (by simp) _)
    exact HB1.out
  · obtain ⟨n1, n2⟩ := inR_iff.1 hi
    obtain ⟨a0, a1, r, hws⟩ := two_up (l := splitL 32 l) (by omega)
    have HR := Aside0.mk (cr_of (rdc_impl hws 5))
    rw [hi] at HW
    have hlen : (splitL 32 l).length = r.length + 2 := by rw [hws]; rfl
    rw [hws] at HS HML HW
    rw [hlen] at n1 n2
    obtain ⟨n, hn⟩ : ∃ n, r.length + 2 = n := ⟨_, rfl⟩
    have hln : (a0 :: a1 :: r).length = n := hn
    rw [hln] at HW
    rw [hn] at n1 n2
    clear hws hi hlen
    have HD := Aside0.mk (fun (a : Bs) (h : a.length ≤ 1048576) (W : World) (hw : Txt W) => short_c a h W hw)
    have l0 := HML.out a0 (by simp)
    have HRD := Aside0.mk (fun W h => readDec_c a1 (HML.out a1 (by simp)) W h)
    have HE := Aside0.mk (fun A c W (hC : Kd.string.C W A r.length (r.map bS)) h => eachShort_c A c r W hC (by omega) (fun t hm => HML.out t (by simp [hm])) h)
    have HK := Aside0.mk (show csOf a0 a1 r = ⟨shN a0, min (max (rdN a1) 0) 200001, r.map shN⟩ from rfl)
    rw [HK.out] at HR
    generalize rdN a1 = m at HRD HR
    generalize rdOk a1 = mk at HRD
    go_enter Tryd.func40, Tryd.ntmps40
    go_wp2_with fail
    generalize World.alloc w _ = W1 at hbx hb0 HT ⊢
    refine (HS.out W1 HT.out).mono ?_; rintro _ w1 ⟨_, rfl, hb1, A1, c1_, rfl, hc1, hC1⟩
    rw [hln] at hc1 hC1 ⊢
    have HB1 := Aside0.mk (bstep hb0 hb1)
    have HX1 := Aside0.mk (blk_below hbx hb1)
    have HT1 := Aside0.mk (HT.out.below hb1)
    have HC1 := Aside0.mk hC1
    obtain ⟨ad, x0, rfl, h0, e0⟩ := at_str (ws := a0 :: a1 :: r) hC1 0 (by omega) hln.symm
    obtain ⟨d1, x1, k1, h1, e1⟩ := at_str (ws := a0 :: a1 :: r) hC1 1 (by omega) hln.symm
    cases k1
    have h0 := h0.out; have h1 := h1.out
    cases h0; cases h1
    have e0 : w1.cell? ad = some (.string (bS a0)) := e0
    have e1 : w1.cell? ⟨ad.block, ad.off + 1, none⟩ = some (.string (bS a1)) := e1
    clear hb1 hC1 hbx HT hb0 HS
    go_wp2_with fail
    refine (HW.out _).mono ?_; rintro _ w2 ⟨rfl, rfl⟩
    have z0 : (1 : Int) < (n : Int) := by omega
    have z1 : (0 : Int) < (n : Int) := by omega
    have z2 : (2 : Int) ≤ (n : Int) := by omega
    have z3 : (n : Int) ≤ (c1_ : Int) := by omega
    have z4 : c1_ ≠ 2 := by omega
    have z5 : n ≤ c1_ := by omega
    have z6 : 2 ≤ n := by omega
    have z7 : 0 < n := by omega
    have z8 : 1 < n := by omega
    go_wp2_with fail
    refine (HRD.out w1 HT1.out).mono ?_; rintro _ w2 ⟨rfl, hb2⟩
    go_wp2_with fail
    have hbd : Below w1.heap.size w1 w2.drew := bdrew hb2
    have HB3 := Aside0.mk (bstep HB1.out hbd)
    have HX3 := Aside0.mk (blk_below HX1.out hbd)
    have HT3 := Aside0.mk (HT1.out.below hbd)
    have HC3 := Aside0.mk (Kd.C_below HC1.out hbd)
    have d0 := pw_cell_below hbd e0
    clear hb2 e0 e1 HB1 HX1 HT1 HC1 h0 h1
    refine region_HO (G := Ov) 13 (by kernel_rfl) (by kernel_rfl) ?_
    generalize World.drew w2 = wb at HB3 HX3 HT3 HC3 d0 ⊢
    clear hbd
    refine HO_take Keep.ov (i := 0) (v := ?_) rfl (by kernel_rfl) (by kernel_rfl) (by kernel_rfl) (by decide) (fun _ _ _ h => h) (fun b' hb' => Or.inl ⟨by kernel_rfl, fun W hW => ?_⟩) ?_
    rotate_left
    · have hW' := hb'.step hW
      go_simp
      with_reducible rfl
    refine HO_take Keep.ov (i := 1) (v := ?_) rfl (by kernel_rfl) (by kernel_rfl) (by kernel_rfl) (by decide) (fun _ _ _ h => h) (fun b' hb' => Or.inl ⟨by kernel_rfl, fun W hW => ?_⟩) ?_
    rotate_left
    · have hW' := hb'.step hW
      go_simp
      with_reducible rfl
    refine HO_take Keep.ov (i := 2) (v := ?_) rfl (by kernel_rfl) (by kernel_rfl) (by kernel_rfl) (by decide) (fun _ _ _ h => h) (fun b' hb' => Or.inl ⟨by kernel_rfl, fun W hW => ?_⟩) ?_
    rotate_left
    · have hW' := hb'.step hW
      have q_0 := pw_cell_below hW' d0
      go_simp
      with_reducible rfl
    refine HO_take Keep.ov (i := 3) (v := .int .i16 (shN a0)) rfl (by kernel_rfl) (by kernel_rfl) (by kernel_rfl) (by decide) (fun _ _ _ h => h) (fun b' hb' => Or.inl ⟨by kernel_rfl, fun W hW => ?_⟩) ?_
    · have hW' := hb'.step hW
      go_simp
      exact (HD.out a0 l0 W (HT3.out.below hW')).mono (fun _ _ h => ⟨h.1, hW.step h.2⟩)
    refine HO_take Keep.ov (i := 4) (v := ?_) rfl (by kernel_rfl) (by kernel_rfl) (by kernel_rfl) (by decide) (fun _ _ _ h => h) (fun b' hb' => Or.inl ⟨by kernel_rfl, fun W hW => ?_⟩) ?_
    rotate_left
    · have hW' := hb'.step hW
      go_simp
      with_reducible rfl
    refine HO_take Keep.ov (i := 5) (v := ?_) rfl (by kernel_rfl) (by kernel_rfl) (by kernel_rfl) (by decide) (fun _ _ _ h => h) (fun b' hb' => Or.inl ⟨by kernel_rfl, fun W hW => ?_⟩) ?_
    rotate_left
    · have hW' := hb'.step hW
      go_simp
      with_reducible rfl
    refine HO_take Keep.ov (i := 6) (v := ?_) rfl (by kernel_rfl) (by kernel_rfl) (by kernel_rfl) (by decide) (fun _ _ _ h => h) (fun b' hb' => Or.inl ⟨by kernel_rfl, fun W hW => ?_⟩) ?_
    rotate_left
    · have hW' := hb'.step hW
      go_simp
      with_reducible rfl
    refine HO_take Keep.ov (i := 7) (v := ?_) rfl (by kernel_rfl) (by kernel_rfl) (by kernel_rfl) (by decide) (fun _ _ _ h => h) (fun b' hb' => Or.inl ⟨by kernel_rfl, fun W hW => ?_⟩) ?_
    rotate_left
    · have hW' := hb'.step hW
      go_simp
      with_reducible rfl
    refine HO_take Keep.ov (i := 8) (v := ?_) rfl (by kernel_rfl) (by kernel_rfl) (by kernel_rfl) (by decide) (fun _ _ _ h => h) (fun b' hb' => Or.inl ⟨by kernel_rfl, fun W hW => ?_⟩) ?_
    rotate_left
    · have hW' := hb'.step hW
      go_simp
      with_reducible rfl
    refine HO_take Keep.ov (i := 9) (v := ?_) rfl (by kernel_rfl) (by kernel_rfl) (by kernel_rfl) (by decide) (fun _ _ _ h => h) (fun b' hb' => Or.inl ⟨by kernel_rfl, fun W hW => ?_⟩) ?_
    rotate_left
    · have hW' := hb'.step hW
      go_simp
      with_reducible rfl
    have HC4 := Aside0.mk (show Kd.string.C wb (some ⟨ad.block, ad.off + 2, none⟩) r.length (r.map bS) by
      have h := Kd.C_drop (c := c1_) (m := 2) (by have := HC3.out; rw [show n = ((a0 :: a1 :: r).map bS).length by rw [List.length_map, hln]] at this; exact this) (by simp) (by rw [List.length_map, hln]; omega)
      rw [if_neg z4] at h
      simp only [List.map_cons, List.drop_succ_cons, List.drop_zero, List.length_map] at h
      exact h)
    have iw : IntKind.i32.wrap (min (max m 0) 200001) = min (max m 0) 200001 := by
      have : 0 ≤ min (max m 0) 200001 ∧ min (max m 0) 200001 ≤ 200001 := by omega
      simp only [IntKind.wrap, IntKind.bits, IntKind.signed, Bool.true_and, decide_eq_true_eq, ge_iff_le]
      split <;> omega
    rw [iw]
    have hn2 : n - 2 = r.length := by omega
    rw [hn2]
    generalize min (max m 0) 200001 = m2 at HR ⊢
    generalize r.map shN = hs at HR HE
    generalize shN a0 = s0 at HR HD ⊢
    have hgw := Aside0.mk (blk_lt HX3.out)
    clear HC3 iw hn2 z0 z1 z2 z3 z4 z5 z6 z7 z8 HML HK
    refine HO_step2 (i := 10) (j := 12) rfl rfl (by kernel_rfl) (by decide) (by decide) (by kernel_rfl) (by kernel_rfl) (fun W hW K hK => ?_) (fun W hW K hK => ?_)
    · go_simp
      refine (HE.out _ _ W (Kd.C_below HC4.out hW) (HT3.out.below hW)).mono ?_
      rintro _ w7 ⟨v, rfl, hb7, hv⟩
      refine hK _ _ hb7 ?_
      clear hK K
      obtain ⟨A7, c7, rfl, hc7, _⟩ := Kd.R_reads hv
      have HW7 := Aside0.mk (hW.step hb7)
      have hs1 := Aside0.mk (show w.heap.size < W.heap.size by have := hgw.out; have := hW.size; omega)
      have HVB := Aside0.mk (Kd.R_bound hv)
      clear hv hb7 hW
      refine HO_take Keep.ov (i := 11) (v := ?_) rfl (by kernel_rfl) (by kernel_rfl) (by kernel_rfl) (by decide) (fun _ _ _ h => h) (fun b' hb' => Or.inl ⟨by kernel_rfl, fun W hW => ?_⟩) ?_
      rotate_left
      · have hW' := hb'.step hW
        go_simp
        with_reducible rfl
      refine HO_step (i := 12) rfl (by kernel_rfl) (by decide) (by kernel_rfl) (fun W2 hW2 K hK => ?_)
      go_simp
      refine hK _ _ (balloc (Below.refl _ _) _) ?_
      clear hK K
      have HY := Aside0.mk (blk_new W2 (.cells #[.int .i16 0, .int .i32 0, .slice none 0 0] 54))
      have hba := hW2.step (balloc (Below.refl W2.heap.size W2) (.cells #[.int .i16 0, .int .i32 0, .slice none 0 0] 54))
      have HW2 := Aside0.mk (HW7.out.step hba)
      have hgt := Aside0.mk (show w.heap.size < W2.heap.size by have := hgw.out; have := HW7.out.size; have := hW2.size; omega)
      have HV := Aside0.mk (show (Kd.int .i16).R 22 (W2.alloc (.cells #[.int .i16 0, .int .i32 0, .slice none 0 0] 54)) w.heap.size (fun k => k ≠ w.heap.size ∧ k ≠ W2.heap.size) (.slice A7 hs.length c7) hs from
        Kd.R_mono (Kd.R_lower (Kd.R_below HVB.out hba) (Nat.le_of_lt hs1.out)) (fun k hk => ⟨by have := hk.2.1; have := hs1.out; omega, by have := hk.2.2.1; have := hW2.size; omega⟩))
      clear hW2 hba HW7 HVB hs1
      generalize World.alloc W2 _ = W3 at HY HW2 HV ⊢
      generalize W2.heap.size = g8 at HY hgt HV ⊢
      refine HO_end (by kernel_rfl) (fun W hW => ?_)
      have hx := blk_below (blk_below HX3.out HW2.out) hW
      have hy := blk_below HY.out hW
      have HB4 := Aside0.mk (bstep HB3.out (HW2.out.step hW))
      have HX4 := Aside0.mk hx
      have HV4 := Aside0.mk (Kd.R_below HV.out hW)
      clear hW HY HW2 HX3 HB3 HT3 hx HV d0 HE HD HRD
      have c0 := blk_cell hy 0
      have f0 := blk_frozen hy 0
      have c1 := blk_cell hy 1
      have f1 := blk_frozen hy 1
      have c2 := blk_cell hy 2
      have f2 := blk_frozen hy 2
      simp only [List.getElem?_toArray, List.getElem?_cons_zero, List.getElem?_cons_succ] at c0 c1 c2
      go_wp2_with fail
      have hy5 := put3c_blk s0 m2 (.slice A7 hs.length c7) hy
      have HX5 := Aside0.mk (put3c_far s0 m2 (.slice A7 hs.length c7) HX4.out (Nat.ne_of_lt hgt.out))
      have HB5 := Aside0.mk (put3c_below s0 m2 (.slice A7 hs.length c7) HB4.out (Nat.le_of_lt hgt.out))
      have HV5 := Aside0.mk (Kd.R_far (Kd.R_far (Kd.R_far HV4.out (p := ⟨g8, 0, none⟩) (fun k hk => hk.2) (.int .i16 s0)) (p := ⟨g8, 1, none⟩) (fun k hk => hk.2) (.int .i32 m2)) (p := ⟨g8, 2, none⟩) (fun k hk => hk.2) (.slice A7 hs.length c7))
      clear HB4 HX4 HV4 hy c0 c1 c2 f0 f1 f2
      change Calls _ _ _ (put3c W g8 s0 m2 (.slice A7 hs.length c7)) _
      change Aside0 ((Kd.int .i16).R 22 (put3c W g8 s0 m2 (.slice A7 hs.length c7)) w.heap.size (fun k => k ≠ w.heap.size ∧ k ≠ g8) (.slice A7 hs.length c7) hs) at HV5
      generalize put3c W g8 s0 m2 (.slice A7 hs.length c7) = W5 at hy5 HX5 HB5 HV5 ⊢
      have HC5 := Aside0.mk (Kd.R_reads' HV5.out).2.2
      have HI := Aside0.mk (fun W h => ValidCase_c ⟨s0, m2, hs⟩ A7 c7 W h)
      cases hv : vCase ⟨s0, m2, hs⟩
      · have HN := Aside0.mk (show crV l = Cs0 ∧ crE l = 5 by rw [HR.out.1, HR.out.2, hv]; exact ⟨rfl, rfl⟩)
        rw [hv] at HI
        clear hv
        refine (HI.out W5 HC5.out).mono ?_; rintro _ w6 ⟨rfl, hb6⟩
        have hx6 := blk_below HX5.out hb6
        have hy6 := blk_below hy5 hb6
        have HB6 := Aside0.mk (bstep HB5.out hb6)
        clear hb6 hy5
        have c0 := blk_cell hx6 0
        have f0 := blk_frozen hx6 0
        have c1 := blk_cell hx6 1
        have f1 := blk_frozen hx6 1
        have c2 := blk_cell hx6 2
        have f2 := blk_frozen hx6 2
        simp only [List.getElem?_toArray, List.getElem?_cons_zero, List.getElem?_cons_succ] at c0 c1 c2
        have d0 := blk_cell hy6 0
        have e0 := blk_frozen hy6 0
        have d1 := blk_cell hy6 1
        have e1 := blk_frozen hy6 1
        have d2 := blk_cell hy6 2
        have e2 := blk_frozen hy6 2
        simp only [List.getElem?_toArray, List.getElem?_cons_zero, List.getElem?_cons_succ] at d0 d1 d2
        go_wp2
        refine bodyPost_ret (v := .tuple #[Cs0.val none 0, .int .i64 5]) (by simp [results, Tryd.results40, go_sem, c0, c1, c2, f0, f1, f2, Cs.val]) rfl ⟨_, rfl, ?_, tupC_no HN.out⟩
        repeat (refine Below.setCell ?_ (by simp) _)
        exact HB6.out
      · have HQ := Aside0.mk (fun W h1 h2 => caseText_c ⟨s0, m2, hs⟩ A7 c7 (vC1 hv) W h1 h2)
        rw [hv] at HI
        refine (HI.out W5 HC5.out).mono ?_; rintro _ w6 ⟨rfl, hb6⟩
        have hx6 := blk_below HX5.out hb6
        have hy6 := blk_below hy5 hb6
        have HB6 := Aside0.mk (bstep HB5.out hb6)
        have HV6 := Aside0.mk (Kd.R_below HV5.out hb6)
        clear hb6 hy5 HX5 HB5 HV5 HC5
        have d0 := blk_cell hy6 0
        have e0 := blk_frozen hy6 0
        have d1 := blk_cell hy6 1
        have e1 := blk_frozen hy6 1
        have d2 := blk_cell hy6 2
        have e2 := blk_frozen hy6 2
        simp only [List.getElem?_toArray, List.getElem?_cons_zero, List.getElem?_cons_succ] at d0 d1 d2
        go_wp2_with fail
        clear d0 d1 d2 e0 e1 e2
        refine (HQ.out w6 (Kd.R_reads' HV6.out).2.2 (HT0.out.tab.below HB6.out)).mono ?_; rintro _ w7_ ⟨rfl, hb7⟩
        have hx6 := blk_below hx6 hb7
        have hy6 := blk_below hy6 hb7
        have HB6 := Aside0.mk (bstep HB6.out hb7)
        have HV6 := Aside0.mk (Kd.R_below HV6.out hb7)
        clear hb7
        cases he : (csT ⟨s0, m2, hs⟩ == l)
        · have HN := Aside0.mk (show crV l = Cs0 ∧ crE l = 5 by rw [HR.out.1, HR.out.2, hv, he]; exact ⟨rfl, rfl⟩)
          have hq : ((bS (csT ⟨s0, m2, hs⟩)).toList == (bS l).toList) = false := by rw [bS_list, bS_list]; exact he
          clear hv he
          have c0 := blk_cell hx6 0
          have f0 := blk_frozen hx6 0
          have c1 := blk_cell hx6 1
          have f1 := blk_frozen hx6 1
          have c2 := blk_cell hx6 2
          have f2 := blk_frozen hx6 2
          simp only [List.getElem?_toArray, List.getElem?_cons_zero, List.getElem?_cons_succ] at c0 c1 c2
          have d0 := blk_cell hy6 0
          have e0 := blk_frozen hy6 0
          have d1 := blk_cell hy6 1
          have e1 := blk_frozen hy6 1
          have d2 := blk_cell hy6 2
          have e2 := blk_frozen hy6 2
          simp only [List.getElem?_toArray, List.getElem?_cons_zero, List.getElem?_cons_succ] at d0 d1 d2
          go_wp2
          refine bodyPost_ret (v := .tuple #[Cs0.val none 0, .int .i64 5]) (by simp [results, Tryd.results40, go_sem, c0, c1, c2, f0, f1, f2, Cs.val]) rfl ⟨_, rfl, ?_, tupC_no HN.out⟩
          repeat (refine Below.setCell ?_ (by simp) _)
          exact HB6.out
        · have HN := Aside0.mk (show crV l = ⟨s0, m2, hs⟩ ∧ crE l = 0 by rw [HR.out.1, HR.out.2, hv, he]; exact ⟨rfl, rfl⟩)
          have hq : ((bS (csT ⟨s0, m2, hs⟩)).toList == (bS l).toList) = true := by rw [bS_list, bS_list]; exact he
          clear hv he
          have c0 := blk_cell hx6 0
          have f0 := blk_frozen hx6 0
          have c1 := blk_cell hx6 1
          have f1 := blk_frozen hx6 1
          have c2 := blk_cell hx6 2
          have f2 := blk_frozen hx6 2
          simp only [List.getElem?_toArray, List.getElem?_cons_zero, List.getElem?_cons_succ] at c0 c1 c2
          have d0 := blk_cell hy6 0
          have e0 := blk_frozen hy6 0
          have d1 := blk_cell hy6 1
          have e1 := blk_frozen hy6 1
          have d2 := blk_cell hy6 2
          have e2 := blk_frozen hy6 2
          simp only [List.getElem?_toArray, List.getElem?_cons_zero, List.getElem?_cons_succ] at d0 d1 d2
          go_wp2
          refine bodyPost_ret (v := .tuple #[.agg #[.int .i16 s0, .int .i32 m2, .slice A7 hs.length c7], .int .i64 0]) (by simp [results, Tryd.results40, go_sem, c0, c1, c2, f0, f1, f2, Cs.val]) rfl ⟨_, rfl, ?_, ?_⟩
          · repeat (refine Below.setCell ?_ (by simp) _)
            exact HB6.out
          · rw [HN.out.1, HN.out.2]
            exact ⟨A7, c7, rfl, hc7, Kd.R_mono (Kd.R_far (Kd.R_far (Kd.R_far HV6.out (p := ⟨w.heap.size, 0, none⟩) (fun k hk => hk.1) _) (p := ⟨w.heap.size, 1, none⟩) (fun k hk => hk.1) _) (p := ⟨w.heap.size, 2, none⟩) (fun k hk => hk.1) _) (fun _ _ => trivial)⟩
    · go_simp
      refine hK _ _ (balloc (Below.refl _ _) _) ?_
      clear hK K
      have hy := blk_new W (.cells #[.int .i16 0, .int .i32 0, .slice none 0 0] 54)
      have HW := Aside0.mk (hW.step (balloc (Below.refl W.heap.size W) (.cells #[.int .i16 0, .int .i32 0, .slice none 0 0] 54)))
      have hgt := Aside0.mk (show w.heap.size < W.heap.size by have := hgw.out; have := hW.size; omega)
      have hs3 := Aside0.mk (show W.heap.size < (W.alloc (.cells #[.int .i16 0, .int .i32 0, .slice none 0 0] 54)).heap.size by rw [World.size_alloc]; omega)
      clear hW
      generalize World.alloc W _ = W3 at hy HW hs3 ⊢
      generalize W.heap.size = g8 at hy hgt hs3 ⊢
      refine HO_step (i := 10) rfl (by kernel_rfl) (by decide) (by kernel_rfl) (fun W2 hW2 K hK => ?_)
      go_simp
      refine (HE.out _ _ W2 (Kd.C_below HC4.out (HW.out.step hW2)) (HT3.out.below (HW.out.step hW2))).mono ?_
      rintro _ w7 ⟨v, rfl, hb7, hv⟩
      refine hK _ _ hb7 ?_
      clear hK K
      obtain ⟨A7, c7, rfl, hc7, _⟩ := Kd.R_reads hv
      have hW7 := hW2.step hb7
      have HY := Aside0.mk (blk_below hy hW7)
      have HW2 := Aside0.mk (HW.out.step hW7)
      have HV := Aside0.mk (show (Kd.int .i16).R 22 w7 w.heap.size (fun k => k ≠ w.heap.size ∧ k ≠ g8) (.slice A7 hs.length c7) hs from
        Kd.R_mono (Kd.R_lower (Kd.R_bound hv) (by have := hgt.out; have := hs3.out; have := hW2.size; omega)) (fun k hk => ⟨by have := hk.2.1; have := hgt.out; have := hs3.out; have := hW2.size; omega, by have := hk.2.1; have := hs3.out; have := hW2.size; omega⟩))
      clear hv hb7 hW2 hW7 hy HW hs3
      refine HO_take Keep.ov (i := 11) (v := ?_) rfl (by kernel_rfl) (by kernel_rfl) (by kernel_rfl) (by decide) (fun _ _ _ h => h) (fun b' hb' => Or.inl ⟨by kernel_rfl, fun W hW => ?_⟩) ?_
      rotate_left
      · have hW' := hb'.step hW
        go_simp
        with_reducible rfl
      refine HO_end (by kernel_rfl) (fun W hW => ?_)
      have hx := blk_below (blk_below HX3.out HW2.out) hW
      have hy := blk_below HY.out hW
      have HB4 := Aside0.mk (bstep HB3.out (HW2.out.step hW))
      have HX4 := Aside0.mk hx
      have HV4 := Aside0.mk (Kd.R_below HV.out hW)
      clear hW HY HW2 HX3 HB3 HT3 hx HV d0 HE HD HRD
      have c0 := blk_cell hy 0
      have f0 := blk_frozen hy 0
      have c1 := blk_cell hy 1
      have f1 := blk_frozen hy 1
      have c2 := blk_cell hy 2
      have f2 := blk_frozen hy 2
      simp only [List.getElem?_toArray, List.getElem?_cons_zero, List.getElem?_cons_succ] at c0 c1 c2
      go_wp2_with fail
      have hy5 := put3c_blk s0 m2 (.slice A7 hs.length c7) hy
      have HX5 := Aside0.mk (put3c_far s0 m2 (.slice A7 hs.length c7) HX4.out (Nat.ne_of_lt hgt.out))
      have HB5 := Aside0.mk (put3c_below s0 m2 (.slice A7 hs.length c7) HB4.out (Nat.le_of_lt hgt.out))
      have HV5 := Aside0.mk (Kd.R_far (Kd.R_far (Kd.R_far HV4.out (p := ⟨g8, 0, none⟩) (fun k hk => hk.2) (.int .i16 s0)) (p := ⟨g8, 1, none⟩) (fun k hk => hk.2) (.int .i32 m2)) (p := ⟨g8, 2, none⟩) (fun k hk => hk.2) (.slice A7 hs.length c7))
      clear HB4 HX4 HV4 hy c0 c1 c2 f0 f1 f2
      change Calls _ _ _ (put3c W g8 s0 m2 (.slice A7 hs.length c7)) _
      change Aside0 ((Kd.int .i16).R 22 (put3c W g8 s0 m2 (.slice A7 hs.length c7)) w.heap.size (fun k => k ≠ w.heap.size ∧ k ≠ g8) (.slice A7 hs.length c7) hs) at HV5
      generalize put3c W g8 s0 m2 (.slice A7 hs.length c7) = W5 at hy5 HX5 HB5 HV5 ⊢
      have HC5 := Aside0.mk (Kd.R_reads' HV5.out).2.2
      have HI := Aside0.mk (fun W h => ValidCase_c ⟨s0, m2, hs⟩ A7 c7 W h)
      cases hv : vCase ⟨s0, m2, hs⟩
      · have HN := Aside0.mk (show crV l = Cs0 ∧ crE l = 5 by rw [HR.out.1, HR.out.2, hv]; exact ⟨rfl, rfl⟩)
        rw [hv] at HI
        clear hv
        refine (HI.out W5 HC5.out).mono ?_; rintro _ w6 ⟨rfl, hb6⟩
        have hx6 := blk_below HX5.out hb6
        have hy6 := blk_below hy5 hb6
        have HB6 := Aside0.mk (bstep HB5.out hb6)
        clear hb6 hy5
        have c0 := blk_cell hx6 0
        have f0 := blk_frozen hx6 0
        have c1 := blk_cell hx6 1
        have f1 := blk_frozen hx6 1
        have c2 := blk_cell hx6 2
        have f2 := blk_frozen hx6 2
        simp only [List.getElem?_toArray, List.getElem?_cons_zero, List.getElem?_cons_succ] at c0 c1 c2
        have d0 := blk_cell hy6 0
        have e0 := blk_frozen hy6 0
        have d1 := blk_cell hy6 1
        have e1 := blk_frozen hy6 1
        have d2 := blk_cell hy6 2
        have e2 := blk_frozen hy6 2
        simp only [List.getElem?_toArray, List.getElem?_cons_zero, List.getElem?_cons_succ] at d0 d1 d2
        go_wp2
        refine bodyPost_ret (v := .tuple #[Cs0.val none 0, .int .i64 5]) (by simp [results, Tryd.results40, go_sem, c0, c1, c2, f0, f1, f2, Cs.val]) rfl ⟨_, rfl, ?_, tupC_no HN.out⟩
        repeat (refine Below.setCell ?_ (by simp) _)
        exact HB6.out
      · have HQ := Aside0.mk (fun W h1 h2 => caseText_c ⟨s0, m2, hs⟩ A7 c7 (vC1 hv) W h1 h2)
        rw [hv] at HI
        refine (HI.out W5 HC5.out).mono ?_; rintro _ w6 ⟨rfl, hb6⟩
        have hx6 := blk_below HX5.out hb6
        have hy6 := blk_below hy5 hb6
        have HB6 := Aside0.mk (bstep HB5.out hb6)
        have HV6 := Aside0.mk (Kd.R_below HV5.out hb6)
        clear hb6 hy5 HX5 HB5 HV5 HC5
        have d0 := blk_cell hy6 0
        have e0 := blk_frozen hy6 0
        have d1 := blk_cell hy6 1
        have e1 := blk_frozen hy6 1
        have d2 := blk_cell hy6 2
        have e2 := blk_frozen hy6 2
        simp only [List.getElem?_toArray, List.getElem?_cons_zero, List.getElem?_cons_succ] at d0 d1 d2
        go_wp2_with fail
        clear d0 d1 d2 e0 e1 e2
        refine (HQ.out w6 (Kd.R_reads' HV6.out).2.2 (HT0.out.tab.below HB6.out)).mono ?_; rintro _ w7_ ⟨rfl, hb7⟩
        have hx6 := blk_below hx6 hb7
        have hy6 := blk_below hy6 hb7
        have HB6 := Aside0.mk (bstep HB6.out hb7)
        have HV6 := Aside0.mk (Kd.R_below HV6.out hb7)
        clear hb7
        cases he : (csT ⟨s0, m2, hs⟩ == l)
        · have HN := Aside0.mk (show crV l = Cs0 ∧ crE l = 5 by rw [HR.out.1, HR.out.2, hv, he]; exact ⟨rfl, rfl⟩)
          have hq : ((bS (csT ⟨s0, m2, hs⟩)).toList == (bS l).toList) = false := by rw [bS_list, bS_list]; exact he
          clear hv he
          have c0 := blk_cell hx6 0
          have f0 := blk_frozen hx6 0
          have c1 := blk_cell hx6 1
          have f1 := blk_frozen hx6 1
          have c2 := blk_cell hx6 2
          have f2 := blk_frozen hx6 2
          simp only [List.getElem?_toArray, List.getElem?_cons_zero, List.getElem?_cons_succ] at c0 c1 c2
          have d0 := blk_cell hy6 0
          have e0 := blk_frozen hy6 0
          have d1 := blk_cell hy6 1
          have e1 := blk_frozen hy6 1
          have d2 := blk_cell hy6 2
          have e2 := blk_frozen hy6 2
          simp only [List.getElem?_toArray, List.getElem?_cons_zero, List.getElem?_cons_succ] at d0 d1 d2
          go_wp2
          refine bodyPost_ret (v := .tuple #[Cs0.val none 0, .int .i64 5]) (by simp [results, Tryd.results40, go_sem, c0, c1, c2, f0, f1, f2, Cs.val]) rfl ⟨_, rfl, ?_, tupC_no HN.out⟩
          repeat (refine Below.setCell ?_ (by simp) _)
          exact HB6.out
        · have HN := Aside0.mk (show crV l = ⟨s0, m2, hs⟩ ∧ crE l = 0 by rw [HR.out.1, HR.out.2, hv, he]; exact ⟨rfl, rfl⟩)
          have hq : ((bS (csT ⟨s0, m2, hs⟩)).toList == (bS l).toList) = true := by rw [bS_list, bS_list]; exact he
          clear hv he
          have c0 := blk_cell hx6 0
          have f0 := blk_frozen hx6 0
          have c1 := blk_cell hx6 1
          have f1 := blk_frozen hx6 1
          have c2 := blk_cell hx6 2
          have f2 := blk_frozen hx6 2
          simp only [List.getElem?_toArray, List.getElem?_cons_zero, List.getElem?_cons_succ] at c0 c1 c2
          have d0 := blk_cell hy6 0
          have e0 := blk_frozen hy6 0
          have d1 := blk_cell hy6 1
          have e1 := blk_frozen hy6 1
          have d2 := blk_cell hy6 2
          have e2 := blk_frozen hy6 2
          simp only [List.getElem?_toArray, List.getElem?_cons_zero, List.getElem?_cons_succ] at d0 d1 d2
          go_wp2
          refine bodyPost_ret (v := .tuple #[.agg #[.int .i16 s0, .int .i32 m2, .slice A7 hs.length c7], .int .i64 0]) (by simp [results, Tryd.results40, go_sem, c0, c1, c2, f0, f1, f2, Cs.val]) rfl ⟨_, rfl, ?_, ?_⟩
          · repeat (refine Below.setCell ?_ (by simp) _)
            exact HB6.out
          · rw [HN.out.1, HN.out.2]
            exact ⟨A7, c7, rfl, hc7, Kd.R_mono (Kd.R_far (Kd.R_far (Kd.R_far HV6.out (p := ⟨w.heap.size, 0, none⟩) (fun k hk => hk.1) _) (p := ⟨w.heap.size, 1, none⟩) (fun k hk => hk.1) _) (p := ⟨w.heap.size, 2, none⟩) (fun k hk => hk.1) _) (fun _ _ => trivial)⟩
end Go.Proofs.YtgibcacciedobaaDoor
