/- ReadCase: the reference's. -/
import Derived.Test.YtgibcacciedobaaDoorTxF
import Derived.Test.YtgibcacciedobaaDoorTxU
import Derived.StillTailTactics
import Derived.Still
import Derived.Deep.QuietTactic
import Derived.BigQuiet
namespace Go.Proofs.YtgibcacciedobaaDoor
open Go.RowKit Go.Proofs.YtgibcacciedobaaDoorW.PrintWords Go.Proofs.YtgibcacciedobaaDoorW.PrintMore
set_option linter.unusedVariables false
set_option linter.unusedSimpArgs false
set_option maxRecDepth 100000

section
variable {ops : Array Oper} {rest : List Oper} {o : Oper} {a : Act} {Q : Exit → Act → World → Prop}
/-- append(x.f, n) beside the block of x. -/
theorem i16_appK {w0 W : World} {B g : Nat} (hgd : o.guard = none) (s x : Operand) (ho : o.op = .call { callee := .builtin .append, args := #[s, x], argTypes := #[49, 49] }) (v : Value) (xs : List Int) (n : Int)
    (hs : a.eval s = v) (hx : a.eval x = .slice (some ⟨W.heap.size, 0, none⟩) 1 1) (HO : (Kd.int .i16).R 22 W B (fun k => k ≠ g) v xs) (HB : Below B w0 W) (hB : B ≤ W.heap.size) (hl : xs.length ≤ 2097152)
    {cs : Array Value} {t : TypeId} (hblk : W.heap[g]? = some (.cells cs t (0, 0)))
    (h : ∀ v1 w1, (Kd.int .i16).R 22 w1 B (fun k => k ≠ g) v1 (xs ++ [n]) → Below B w0 w1 → w1.heap[g]? = some (.cells cs t (0, 0)) → wpList Tryd.prog ops Q rest (a.put o.dst v1) w1) :
    wpList Tryd.prog ops Q (o :: rest) a (W.alloc (.cells #[.int .i16 n] 22)) :=
  Kd.R_append (Kd.int .i16) (w0 := w0) B hgd s x 49 22 (.int .i16 0) 2 ho Tryd.underlying49 (by kernel_rfl) rfl (by decide) (by decide) v xs n [.int .i16 n] (fun k => k ≠ g) (fun _ => False) hs hx rfl (fun _ h => h.elim) (fun k hk => by have := blk_lt hblk; omega) HO HB hB (by omega)
    (fun v1 w1 h1 h2 h3 _ => h v1 w1 h1 h2 ((h3.block g (blk_lt hblk) (fun he => HO.1 g he.symm rfl)).trans hblk))
end
theorem wOk_nm {i : Nat} {t : Bs} : wOk i t ↔ nmK t = true ∧ nmV t ≤ 200000 ∧ (i ≠ 1 → nmV t ≤ 2000) := by
  constructor
  · rintro ⟨n, h1, h2, h3⟩
    obtain ⟨e1, e2⟩ := nm_some h1
    exact ⟨e2, by rw [e1]; omega, fun hi => by have := h3 hi; rw [e1]; omega⟩
  · rintro ⟨h1, h2, h3⟩
    unfold nmK at h1
    obtain ⟨n, hn⟩ := Option.isSome_iff_exists.1 h1
    rw [(nm_some hn).1] at h2 h3
    exact ⟨n, hn, by omega, fun hi => by have := h3 hi; omega⟩
theorem nmW_V (t : Bs) : nmW t = nmV t := rfl
theorem csNm_snoc {l : List Bs} (h : 2 ≤ l.length) (t : Bs) : csNm (l ++ [t]) = ⟨(csNm l).wd, (csNm l).ld, (csNm l).hs ++ [nmV t]⟩ := by
  match l, h with
  | a :: b :: r, _ => simp [csNm, nmW_V]
theorem csNm_at0 {l : List Bs} (h : l.length = 0) (t : Bs) : csNm (l ++ [t]) = ⟨nmV t, (csNm l).ld, (csNm l).hs⟩ := by
  match l, h with
  | [], _ => rfl
theorem csNm_at1 {l : List Bs} (h : l.length = 1) (t : Bs) : csNm (l ++ [t]) = ⟨(csNm l).wd, nmV t, (csNm l).hs⟩ := by
  match l, h with
  | [a], _ => rfl
theorem csNm_len (l : List Bs) : (csNm l).hs.length ≤ l.length := by
  match l with
  | [] => exact Nat.le_refl _
  | [a] => exact Nat.zero_le _
  | a :: b :: r => show (r.map nmW).length ≤ _; rw [List.length_map]; simp only [List.length_cons]; omega
theorem i32_low {n : Int} (h : 0 ≤ n ∧ n ≤ 200000) : IntKind.i32.wrap n = n := by
  simp only [IntKind.wrap, IntKind.bits, IntKind.signed, Bool.true_and, decide_eq_true_eq, ge_iff_le]
  split <;> omega
theorem nmV_nn (t : Bs) : 0 ≤ nmV t := by unfold nmV; omega
theorem csNm_ok {l : List Bs} (h : ∀ j t, l[j]? = some t → wOk j t) : (csNm l).ok := by
  have hz : ∀ t : Bs, nmV t ≤ 2000 → I16 (nmV t) := fun t ht => ⟨by have := nmV_nn t; omega, by omega⟩
  match l, h with
  | [], _ => exact ⟨⟨by decide, by decide⟩, ⟨by decide, by decide⟩, fun x hx => by cases hx⟩
  | [a], h => exact ⟨hz a ((wOk_nm.1 (h 0 a rfl)).2.2 (by decide)), ⟨by show (-2147483648 : Int) ≤ 0; decide, by show (0 : Int) ≤ 2147483647; decide⟩, fun x hx => by cases hx⟩
  | a :: b :: r, h =>
    refine ⟨hz a ((wOk_nm.1 (h 0 a rfl)).2.2 (by decide)), ⟨by have := nmV_nn b; show -2147483648 ≤ nmV b; omega, by have := (wOk_nm.1 (h 1 b rfl)).2.1; show nmV b ≤ 2147483647; omega⟩, fun x hx => ?_⟩
    obtain ⟨t, ht, rfl⟩ := List.mem_map.1 hx
    obtain ⟨j, hj⟩ := List.mem_iff_getElem?.1 ht
    exact hz t ((wOk_nm.1 (h (j + 2) t (by simpa using hj))).2.2 (by omega))
set_option maxHeartbeats 2000000 in
theorem specReadCase_c (l : Bs) (hl : l.length ≤ 1048576) (w : World) : Calls Tryd.prog 39 #[.string (bS l)] w (RetQ w (TupC w (crV l) (crE l))) := by
  have hb0 : Below w.heap.size w (w.alloc (.cells #[.int .i16 0, .int .i32 0, .slice none 0 0] 54)) := balloc (Below.refl _ _) _
  have hbx := blk_new w (.cells #[.int .i16 0, .int .i32 0, .slice none 0 0] 54)
  have HS := Aside0.mk (fun W => l01Split_c 32 32 rfl l hl W)
  have HML := Aside0.mk (fun x hx => Nat.le_trans (splitL_mem32 32 l x hx) hl)
  have HBAD := Aside0.mk (fun (j : Nat) (t : Bs) (ht : (splitL 32 l)[j]? = some t) (h : ¬ wOk j t) => cr_no (l := l) (fun k hk => h (rdc_word ht hk)))
  have HGOOD := Aside0.mk (fun (h : ∀ j t, (splitL 32 l)[j]? = some t → wOk j t) => cr_of (rdc_spec (l := l) (fun t ht => by
    obtain ⟨j, hj⟩ := List.mem_iff_getElem?.1 ht
    obtain ⟨n, hn, _⟩ := h j t hj
    exact ⟨n, hn⟩) 5))
  have hle := splitL_len 32 l
  generalize splitL 32 l = ws at HS HML HBAD HGOOD hle
  go_enter Tryd.func39, Tryd.ntmps39
  go_wp2_with fail
  generalize World.alloc w _ = W1 at hbx hb0 ⊢
  refine (HS.out W1).mono ?_; rintro _ w1 ⟨_, rfl, hb1, A1, c1_, rfl, hc1, hC1⟩
  have HC1 := Aside0.mk hC1
  have HB1 := Aside0.mk (bstep hb0 hb1)
  have HX1 := Aside0.mk (blk_below hbx hb1)
  have hgt := Aside0.mk (show w.heap.size < w1.heap.size from blk_lt HX1.out)
  clear hb1 hC1 hbx hb0
  go_wp2_with fail
  have HK0 := Aside0.mk (blk_new w1 (.cells #[.int .i16 0, .int .i32 0, .slice none 0 0] 54))
  have HBS := Aside0.mk (balloc (Below.refl w1.heap.size w1) (.cells #[.int .i16 0, .int .i32 0, .slice none 0 0] 54))
  go_loopg [6] ws.length (fun gk v6 wr => ∃ (k : Nat) (v : Value), k + gk = ws.length ∧ v6 = .int .i64 k ∧ Aside0 (∀ j t, j < k → ws[j]? = some t → wOk j t) ∧
    Aside0 (wr.heap[w1.heap.size]? = some (.cells #[.int .i16 (csNm (ws.take k)).wd, .int .i32 (csNm (ws.take k)).ld, v] 54 (0, 0))) ∧
    Aside0 ((Kd.int .i16).R 22 wr w1.heap.size (fun k => k ≠ w1.heap.size) v (csNm (ws.take k)).hs) ∧ Aside0 (Below w1.heap.size w1 wr))
  case atStart => exact ⟨0, .slice none 0 0, by omega, rfl, ⟨fun j t h => by omega⟩, HK0, ⟨Kd.R_nil _ _ _ _ _⟩, HBS⟩
  case round =>
    clear HK0 HBS
    obtain ⟨k, v, hk, rfl, hp, hN, hR, hb⟩ := hrel
    have HK := Aside0.mk hk
    by_cases hlt : k < ws.length
    · obtain ⟨ad, t, rfl, hbk, hc⟩ := at_str (Kd.C_below HC1.out hb.out) k (by omega) rfl
      have HD := Aside0.mk (l01Number_c t (HML.out t (mem_of hbk.out)) wr)
      have HBX := Aside0.mk (fun h => HBAD.out k t hbk.out h)
      have i0 : (0 : Int) ≤ (k : Int) := by omega
      have i1 : (k : Int) < (ws.length : Int) := by omega
      clear hk
      cases ho : nmK t
      · have HN := Aside0.mk (HBX.out (fun h => by rw [(wOk_nm.1 h).1] at ho; cases ho))
        rw [ho] at HD
        generalize nmV t = n at HD
        clear ho
        go_wp2_with fail
        refine HD.out.mono ?_; rintro _ w3 ⟨rfl, hb3⟩
        have hx3 := blk_below (blk_below HX1.out hb.out) hb3
        have HB3 := Aside0.mk (bstep (bstep HB1.out hb.out) hb3)
        clear hb3 hc
        have c0 := blk_cell hx3 0
        have f0 := blk_frozen hx3 0
        have c1 := blk_cell hx3 1
        have f1 := blk_frozen hx3 1
        have c2 := blk_cell hx3 2
        have f2 := blk_frozen hx3 2
        simp only [List.getElem?_toArray, List.getElem?_cons_zero, List.getElem?_cons_succ] at c0 c1 c2
        go_wp2
        refine bodyPost_ret (v := .tuple #[Cs0.val none 0, .int .i64 5]) (by simp [results, Tryd.results39, go_sem, c0, c1, c2, f0, f1, f2, Cs.val]) rfl ⟨_, rfl, ?_, tupC_no HN.out⟩
        repeat (refine Below.setCell ?_ (by simp) _)
        exact HB3.out
      · rw [ho] at HD
        by_cases hbig : 200000 < nmV t
        · have HN := Aside0.mk (HBX.out (fun h => by have := (wOk_nm.1 h).2.1; omega))
          generalize nmV t = n at HD hbig
          clear ho
          go_wp2_with fail
          refine HD.out.mono ?_; rintro _ w3 ⟨rfl, hb3⟩
          have hx3 := blk_below (blk_below HX1.out hb.out) hb3
          have HB3 := Aside0.mk (bstep (bstep HB1.out hb.out) hb3)
          clear hb3 hc
          have c0 := blk_cell hx3 0
          have f0 := blk_frozen hx3 0
          have c1 := blk_cell hx3 1
          have f1 := blk_frozen hx3 1
          have c2 := blk_cell hx3 2
          have f2 := blk_frozen hx3 2
          simp only [List.getElem?_toArray, List.getElem?_cons_zero, List.getElem?_cons_succ] at c0 c1 c2
          go_wp2
          refine bodyPost_ret (v := .tuple #[Cs0.val none 0, .int .i64 5]) (by simp [results, Tryd.results39, go_sem, c0, c1, c2, f0, f1, f2, Cs.val]) rfl ⟨_, rfl, ?_, tupC_no HN.out⟩
          repeat (refine Below.setCell ?_ (by simp) _)
          exact HB3.out
        · by_cases hk1 : k = 1
          · have HP := Aside0.mk (fun (j : Nat) (t' : Bs) (h : j < k + 1) (ht : ws[j]? = some t') => show wOk j t' by
              by_cases hj : j < k
              · exact hp.out j t' hj ht
              · obtain rfl : j = k := by omega
                rw [hbk.out] at ht
                rw [← Option.some.inj ht]
                exact wOk_nm.2 ⟨ho, by omega, fun h => by exact absurd hk1 h⟩)
            have HNX := Aside0.mk (show csNm (ws.take (k + 1)) = ⟨(csNm (ws.take k)).wd, nmV t, (csNm (ws.take k)).hs⟩ by rw [take_snoc hbk.out]; exact csNm_at1 (by rw [List.length_take]; omega) t)
            have iw := i32_low (n := nmV t) ⟨nmV_nn t, by omega⟩
            generalize csNm (ws.take k) = c at hN hR HNX
            generalize nmV t = n at HD hbig HNX iw
            clear ho
            have b0 : ((k : Int) == 0) = false := by simp; omega
            have b1 : ((k : Int) == 1) = true := by simp; omega
            have b2 : ((k : Int) != 1) = false := by simp; omega
            clear hk1
            go_wp2_with fail
            refine HD.out.mono ?_; rintro _ w3 ⟨rfl, hb3⟩
            have hN3 := blk_below hN.out hb3
            have HR3 := Aside0.mk (Kd.R_below hR.out hb3)
            have HB3 := Aside0.mk (bstep hb.out hb3)
            clear hb3 hc
            have c0 := blk_cell hN3 0
            have f0 := blk_frozen hN3 0
            have c1 := blk_cell hN3 1
            have f1 := blk_frozen hN3 1
            have c2 := blk_cell hN3 2
            have f2 := blk_frozen hN3 2
            simp only [List.getElem?_toArray, List.getElem?_cons_zero, List.getElem?_cons_succ] at c0 c1 c2
            have HN4 := Aside0.mk (blk_set hN3 1 (.int .i32 n))
            simp only [List.setIfInBounds_toArray, List.set_cons_zero, List.set_cons_succ] at HN4
            have HR4 := Aside0.mk (Kd.R_far HR3.out (p := ⟨w1.heap.size, 1, none⟩) (fun k hk => hk) (.int .i32 n))
            have HB4 := Aside0.mk (Below.setCell HB3.out (p := ⟨w1.heap.size, 1, none⟩) (Nat.le_refl _) (.int .i32 n))
            clear hN3
            go_wp2
            go_roundg (gk - 1)
            case measure => have := HK.out; omega
            case rel => exact ⟨k + 1, v, by have := HK.out; omega, by go_num, HP, ⟨by rw [HNX.out]; exact HN4.out⟩, ⟨by rw [HNX.out]; exact HR4.out⟩, HB4⟩
          · have hq1 : ((k : Int) != 1) = true := by simp; omega
            by_cases hbig2 : 2000 < nmV t
            · have HN := Aside0.mk (HBX.out (fun h => by have := (wOk_nm.1 h).2.2 hk1; omega))
              generalize nmV t = n at HD hbig hbig2
              clear ho
              go_wp2_with fail
              refine HD.out.mono ?_; rintro _ w3 ⟨rfl, hb3⟩
              have hx3 := blk_below (blk_below HX1.out hb.out) hb3
              have HB3 := Aside0.mk (bstep (bstep HB1.out hb.out) hb3)
              clear hb3 hc
              have c0 := blk_cell hx3 0
              have f0 := blk_frozen hx3 0
              have c1 := blk_cell hx3 1
              have f1 := blk_frozen hx3 1
              have c2 := blk_cell hx3 2
              have f2 := blk_frozen hx3 2
              simp only [List.getElem?_toArray, List.getElem?_cons_zero, List.getElem?_cons_succ] at c0 c1 c2
              go_wp2
              refine bodyPost_ret (v := .tuple #[Cs0.val none 0, .int .i64 5]) (by simp [results, Tryd.results39, go_sem, c0, c1, c2, f0, f1, f2, Cs.val]) rfl ⟨_, rfl, ?_, tupC_no HN.out⟩
              repeat (refine Below.setCell ?_ (by simp) _)
              exact HB3.out
            · by_cases hk0 : k = 0
              · have HP := Aside0.mk (fun (j : Nat) (t' : Bs) (h : j < k + 1) (ht : ws[j]? = some t') => show wOk j t' by
                  by_cases hj : j < k
                  · exact hp.out j t' hj ht
                  · obtain rfl : j = k := by omega
                    rw [hbk.out] at ht
                    rw [← Option.some.inj ht]
                    exact wOk_nm.2 ⟨ho, by omega, fun h => by omega⟩)
                have HNX := Aside0.mk (show csNm (ws.take (k + 1)) = ⟨nmV t, (csNm (ws.take k)).ld, (csNm (ws.take k)).hs⟩ by rw [take_snoc hbk.out]; exact csNm_at0 (by rw [List.length_take]; omega) t)
                have iw := i16_low (n := nmV t) ⟨nmV_nn t, by omega⟩
                generalize csNm (ws.take k) = c at hN hR HNX
                generalize nmV t = n at HD hbig HNX iw hbig2
                clear ho
                have b0 : ((k : Int) == 0) = true := by simp; omega
                clear hk0
                go_wp2_with fail
                refine HD.out.mono ?_; rintro _ w3 ⟨rfl, hb3⟩
                have hN3 := blk_below hN.out hb3
                have HR3 := Aside0.mk (Kd.R_below hR.out hb3)
                have HB3 := Aside0.mk (bstep hb.out hb3)
                clear hb3 hc
                have c0 := blk_cell hN3 0
                have f0 := blk_frozen hN3 0
                have c1 := blk_cell hN3 1
                have f1 := blk_frozen hN3 1
                have c2 := blk_cell hN3 2
                have f2 := blk_frozen hN3 2
                simp only [List.getElem?_toArray, List.getElem?_cons_zero, List.getElem?_cons_succ] at c0 c1 c2
                have HN4 := Aside0.mk (blk_set hN3 0 (.int .i16 n))
                simp only [List.setIfInBounds_toArray, List.set_cons_zero, List.set_cons_succ] at HN4
                have HR4 := Aside0.mk (Kd.R_far HR3.out (p := ⟨w1.heap.size, 0, none⟩) (fun k hk => hk) (.int .i16 n))
                have HB4 := Aside0.mk (Below.setCell HB3.out (p := ⟨w1.heap.size, 0, none⟩) (Nat.le_refl _) (.int .i16 n))
                clear hN3
                go_wp2
                go_roundg (gk - 1)
                case measure => have := HK.out; omega
                case rel => exact ⟨k + 1, v, by have := HK.out; omega, by go_num, HP, ⟨by rw [HNX.out]; exact HN4.out⟩, ⟨by rw [HNX.out]; exact HR4.out⟩, HB4⟩
              · have HP := Aside0.mk (fun (j : Nat) (t' : Bs) (h : j < k + 1) (ht : ws[j]? = some t') => show wOk j t' by
                  by_cases hj : j < k
                  · exact hp.out j t' hj ht
                  · obtain rfl : j = k := by omega
                    rw [hbk.out] at ht
                    rw [← Option.some.inj ht]
                    exact wOk_nm.2 ⟨ho, by omega, fun h => by omega⟩)
                have HNX := Aside0.mk (show csNm (ws.take (k + 1)) = ⟨(csNm (ws.take k)).wd, (csNm (ws.take k)).ld, (csNm (ws.take k)).hs ++ [nmV t]⟩ by rw [take_snoc hbk.out]; exact csNm_snoc (by rw [List.length_take]; omega) t)
                have iw := i16_low (n := nmV t) ⟨nmV_nn t, by omega⟩
                have HLN := Aside0.mk (show (csNm (ws.take k)).hs.length ≤ 2097152 by have := csNm_len (ws.take k); rw [List.length_take] at this; omega)
                generalize csNm (ws.take k) = c at hN hR HNX HLN
                generalize nmV t = n at HD hbig HNX iw hbig2
                clear ho
                have b0 : ((k : Int) == 0) = false := by simp; omega
                have b1 : ((k : Int) == 1) = false := by simp; omega
                go_wp2_with fail
                refine HD.out.mono ?_; rintro _ w3 ⟨rfl, hb3⟩
                have hN3 := blk_below hN.out hb3
                have HN3 := Aside0.mk hN3
                have HR3 := Aside0.mk (Kd.R_below hR.out hb3)
                have HB3 := Aside0.mk (bstep hb.out hb3)
                clear hb3 hc
                have c0 := blk_cell hN3 0
                have f0 := blk_frozen hN3 0
                have c1 := blk_cell hN3 1
                have f1 := blk_frozen hN3 1
                have c2 := blk_cell hN3 2
                have f2 := blk_frozen hN3 2
                simp only [List.getElem?_toArray, List.getElem?_cons_zero, List.getElem?_cons_succ] at c0 c1 c2
                clear hN3
                go_wp2_with (at_builtin; refine i16_appK (w0 := w1) (B := w1.heap.size) (g := w1.heap.size) rfl (.tmp 43) (.tmp 46) rfl _ c.hs n rfl rfl HR3.out HB3.out HB3.out.size HLN.out HN3.out ?_; intro v1 w9 hR1 hB1 hK1; obtain ⟨A9, m9, c9, rfl⟩ : ∃ A m c, v1 = .slice A m c := (Kd.R_reads hR1).elim (fun A h => h.elim (fun c h => ⟨A, _, c, h.1⟩)); have q2 := blk_cell hK1 2; have p2 := blk_frozen hK1 2; simp only [List.getElem?_toArray, List.getElem?_cons_zero, List.getElem?_cons_succ] at q2; have HN9 := Aside0.mk (blk_set hK1 2 (.slice A9 m9 c9)); simp only [List.setIfInBounds_toArray, List.set_cons_zero, List.set_cons_succ] at HN9; have HR9 := Aside0.mk (Kd.R_far hR1 (p := ⟨w1.heap.size, 2, none⟩) (fun k hk => hk) (.slice A9 m9 c9)); have HB9 := Aside0.mk (Below.setCell hB1 (p := ⟨w1.heap.size, 2, none⟩) (Nat.le_refl _) (.slice A9 m9 c9)); clear hR1 hB1 hK1)
                go_roundg (gk - 1)
                case measure => have := HK.out; omega
                case rel => exact ⟨k + 1, _, by have := HK.out; omega, by go_num, HP, ⟨by rw [HNX.out]; exact HN9.out⟩, ⟨by rw [HNX.out]; exact HR9.out⟩, HB9⟩
    · have hkn : k = ws.length := by omega
      have htk : ws.take k = ws := List.take_of_length_le (by omega)
      have HR := Aside0.mk (HGOOD.out (fun j t h => hp.out j t (by rw [hkn]; exact (List.getElem?_eq_some_iff.1 h).1) h))
      have HOK := Aside0.mk (csNm_ok (l := ws) (fun j t h => hp.out j t (by rw [hkn]; exact (List.getElem?_eq_some_iff.1 h).1) h))
      rw [htk] at hN hR
      clear hp htk HBAD HGOOD hk
      generalize csNm ws = c at hN hR HR HOK
      obtain ⟨A9, c9, rfl, hc9, hC9⟩ := Kd.R_reads hR.out
      have hN9 := hN.out
      have HI := Aside0.mk (l02Ok_c c A9 c9 HOK.out ⟨w1.heap.size, 0, none⟩ wr ⟨blk_cell hN9 0, blk_cell hN9 1, blk_cell hN9 2⟩ hC9)
      have hx9 := blk_below HX1.out hb.out
      have HB9 := Aside0.mk (bstep HB1.out hb.out)
      have HVW := hR
      clear hN hR hb hC9
      have c0 := blk_cell hx9 0
      have f0 := blk_frozen hx9 0
      have c1 := blk_cell hx9 1
      have f1 := blk_frozen hx9 1
      have c2 := blk_cell hx9 2
      have f2 := blk_frozen hx9 2
      simp only [List.getElem?_toArray, List.getElem?_cons_zero, List.getElem?_cons_succ] at c0 c1 c2
      have d0 := blk_cell hN9 0
      have e0 := blk_frozen hN9 0
      have d1 := blk_cell hN9 1
      have e1 := blk_frozen hN9 1
      have d2 := blk_cell hN9 2
      have e2 := blk_frozen hN9 2
      simp only [List.getElem?_toArray, List.getElem?_cons_zero, List.getElem?_cons_succ] at d0 d1 d2
      cases hv : vCase c
      · have HN := Aside0.mk (show crV l = Cs0 ∧ crE l = 5 by rw [HR.out.1, HR.out.2, hv]; exact ⟨rfl, rfl⟩)
        rw [hv] at HI
        clear hv
        go_wp2_with fail
        refine HI.out.mono ?_; rintro _ w9 ⟨rfl, rfl⟩
        go_wp2
        refine bodyPost_ret (v := .tuple #[Cs0.val none 0, .int .i64 5]) (by simp [results, Tryd.results39, go_sem, c0, c1, c2, f0, f1, f2, Cs.val]) rfl ⟨_, rfl, ?_, tupC_no HN.out⟩
        repeat (refine Below.setCell ?_ (by simp) _)
        exact HB9.out
      · have HN := Aside0.mk (show crV l = c ∧ crE l = 0 by rw [HR.out.1, HR.out.2, hv]; exact ⟨rfl, rfl⟩)
        rw [hv] at HI
        clear hv
        go_wp2_with fail
        refine HI.out.mono ?_; rintro _ w9 ⟨rfl, rfl⟩
        go_wp2
        refine bodyPost_ret (v := .tuple #[.agg #[.int .i16 c.wd, .int .i32 c.ld, .slice A9 c.hs.length c9], .int .i64 0]) (by simp [results, Tryd.results39, go_sem, c0, c1, c2, f0, f1, f2, Cs.val]) rfl ⟨_, rfl, ?_, ?_⟩
        · repeat (refine Below.setCell ?_ (by simp) _)
          exact HB9.out
        · rw [HN.out.1, HN.out.2]
          have HVB := Kd.R_mono (Kd.R_bound HVW.out) (fun k hk => show k ≠ w.heap.size by have := hk.2.1; have := hgt.out; omega)
          exact ⟨A9, c9, rfl, hc9, Kd.R_mono (Kd.R_far (Kd.R_far (Kd.R_far (Kd.R_lower HVB (Nat.le_of_lt hgt.out)) (p := ⟨w.heap.size, 0, none⟩) (fun k hk => hk) _) (p := ⟨w.heap.size, 1, none⟩) (fun k hk => hk) _) (p := ⟨w.heap.size, 2, none⟩) (fun k hk => hk) _) (fun _ _ => trivial)⟩
end Go.Proofs.YtgibcacciedobaaDoor
