/- SortBooks: the program's; SortBooks: the reference's; SortBooks: the reference's, as a whole. -/
import Derived.Test.YtgdhopcbiekhhaaStb
import Derived.Test.YtgdhopcbiekhhaaCompareBy
import Derived.Test.YtgdhopcbiekhhaaRunsV
import Derived.Test.YtgdhopcbiekhhaaPlace
import Derived.StillTailTactics
import Derived.Still
import Derived.Deep.QuietTactic
import Derived.BigQuiet
namespace Go.Proofs.Ytgdhopcbiekhhaa
open Go.RowKit Go.Proofs.YtgdhopcbiekhhaaW.PrintWords Go.Proofs.YtgdhopcbiekhhaaW.PrintMore
set_option linter.unusedVariables false
set_option linter.unusedSimpArgs false
set_option maxRecDepth 100000

theorem sortClo_c (p : Addr) (A : Option Addr) (c : Nat) (O : List Int) (x y : Bk) (w : World) (hp : w.cell? p = some (.slice A O.length c)) (hpl : p.block < w.heap.size) (hO : (Kd.int .i8).C w A O.length O) (hk : ∀ x ∈ O, I8 x) :
    Calls Try.prog 132 (#[x.val, y.val] ++ #[.pointer (some p)]) w (Ret w (.int .i64 (cmpBy O x y))) := by
  show Calls Try.prog 132 #[x.val, y.val, .pointer (some p)] w (Ret w (.int .i64 (cmpBy O x y)))
  have HC := Aside0.mk (fun W h => compareBy_c A c O x y W h hk)
  have HO := Aside0.mk hO
  have HB := Aside0.mk (balloc (balloc (Below.refl w.heap.size w) (.cells #[.int .i16 x.c, .int .u8 x.m0, .int .u8 x.m1, .int .u8 x.m2, .int .i16 x.v, .int .i16 x.wd, .int .i16 x.h, .int .i16 x.wt] 34)) (.cells #[.int .i16 y.c, .int .u8 y.m0, .int .u8 y.m1, .int .u8 y.m2, .int .i16 y.v, .int .i16 y.wd, .int .i16 y.h, .int .i16 y.wt] 34))
  have hp2 := (HB.out.cell hpl).trans hp
  obtain ⟨p0, p1, p2, p3, p4, p5, p6, p7⟩ := (BkAt.box w x 34).below (balloc (Below.refl _ _) (.cells #[.int .i16 y.c, .int .u8 y.m0, .int .u8 y.m1, .int .u8 y.m2, .int .i16 y.v, .int .i16 y.wd, .int .i16 y.h, .int .i16 y.wt] 34))
  have hbb := BkAt.box (w.alloc (.cells #[.int .i16 x.c, .int .u8 x.m0, .int .u8 x.m1, .int .u8 x.m2, .int .i16 x.v, .int .i16 x.wd, .int .i16 x.h, .int .i16 x.wt] 34)) y 34
  simp only [World.size_alloc] at hbb
  obtain ⟨q0, q1, q2, q3, q4, q5, q6, q7⟩ := hbb
  clear hp hO hpl
  simp only [Bk.val] at HC ⊢
  go_enter Try.func132, Try.ntmps132
  go_wp2_with fail
  refine (HC.out _ (Kd.C_below HO.out HB.out)).mono ?_; rintro _ w1 ⟨rfl, hb1⟩
  have HB1 := Aside0.mk (bstep HB.out hb1)
  clear hb1 p0 p1 p2 p3 p4 p5 p6 p7 q0 q1 q2 q3 q4 q5 q6 q7
  go_wp2_with fail
  go_ret
  exact ⟨rfl, HB1.out⟩
def okSort (O : List Int) (L : List Bk) : Bool := vOrd O && vBooks L
def sortV (O : List Int) (L : List Bk) : List Bk := if okSort O L = true then Srt.sortL (ltBy O) L else []
def sortE (O : List Int) (L : List Bk) : Int := if okSort O L = true then 0 else 1
theorem sort_bad {O : List Int} {L : List Bk} (h : okSort O L = false) : sortV O L = [] ∧ sortE O L = 1 := by unfold sortV sortE; rw [h]; exact ⟨rfl, rfl⟩
theorem sort_good {O : List Int} {L : List Bk} (h : okSort O L = true) : sortV O L = Srt.sortL (ltBy O) L ∧ sortE O L = 0 := by unfold sortV sortE; rw [h]; exact ⟨rfl, rfl⟩
theorem sortV_len (O : List Int) (L : List Bk) : (sortV O L).length ≤ 2097152 := by
  unfold sortV
  split
  · rename_i h
    have h2 := (Bool.and_eq_true_iff.1 h).2
    have := vBooks_len h2
    rw [← Srt.Stab.length (ltBy_wk O) (Srt.sortL_ok (ltBy_wk O) L).2]
    omega
  · simp
theorem sort_box (A0 A1 : Option Addr) (c0 : Nat) (O : List Int) (L : List Bk) (w W : World) (hO : (Kd.int .i8).C w A0 O.length O) (hL : kBk.C w A1 L.length L) (h : Below (w.heap.size + 1) (w.alloc (.cells #[.slice A0 O.length c0] 25)) W) :
    W.cell? ⟨w.heap.size, 0, none⟩ = some (.slice A0 O.length c0) ∧ w.heap.size < W.heap.size ∧ (Kd.int .i8).C W A0 O.length O ∧ kBk.C W A1 L.length L ∧ Below w.heap.size w W := by
  have h0 : (w.alloc (.cells #[.slice A0 O.length c0] 25)).heap.size = w.heap.size + 1 := by simp
  have hb := balloc (Below.refl w.heap.size w) (.cells #[.slice A0 O.length c0] 25)
  have hb2 : Below w.heap.size w W := hb.trans (h.mono (by omega))
  have hs := h.size
  rw [h0] at hs
  exact ⟨(h.cell (p := ⟨w.heap.size, 0, none⟩) (Nat.lt_succ_self _)).trans ((blk_cell (blk_new w _) 0).trans rfl), by omega, Kd.C_below hO hb2, Kd.C_below hL hb2, hb2⟩
theorem SortBooks_c (A0 A1 : Option Addr) (c0 c1 : Nat) (O : List Int) (L : List Bk) (w : World) (hO : (Kd.int .i8).C w A0 O.length O) (hk : ∀ x ∈ O, I8 x) (hL : kBk.C w A1 L.length L) :
    Calls Try.prog 82 #[.slice A0 O.length c0, .slice A1 L.length c1] w (RetQ w (TupB w (sortV O L) (sortE O L))) := by
  have HX := Aside0.mk (fun W h => sort_box A0 A1 c0 O L w W hO hL h)
  have HS := Aside0.mk (show Below (w.heap.size + 1) (w.alloc (.cells #[.slice A0 O.length c0] 25)) (w.alloc (.cells #[.slice A0 O.length c0] 25)) from Below.refl _ _)
  have hb := balloc (Below.refl w.heap.size w) (.cells #[.slice A0 O.length c0] 25)
  have HL := Aside0.mk (Kd.C_below hL hb)
  have HO := Aside0.mk (Kd.C_below hO hb)
  have HV := Aside0.mk (fun W h => ValidOrder_c A0 c0 O W h hk)
  have HVB := Aside0.mk (fun W h => ValidBooks_c A1 c1 L W h)
  have HCL := Aside0.mk (fun p W h1 h2 h3 x y => sortClo_c p A0 c0 O x y W h1 h2 h3 hk)
  have hcell : (w.alloc (.cells #[.slice A0 O.length c0] 25)).cell? ⟨w.heap.size, 0, none⟩ = some (.slice A0 O.length c0) := (blk_cell (blk_new w _) 0).trans rfl
  have HSZ := Aside0.mk (show (w.alloc (.cells #[.slice A0 O.length c0] 25)).heap.size = w.heap.size + 1 by simp)
  clear hO hL hb
  cases h1 : vOrd O
  · have HE := Aside0.mk (sort_bad (O := O) (L := L) (by unfold okSort; rw [h1]; rfl))
    rw [h1] at HV
    clear h1
    go_enter Try.func82, Try.ntmps82
    go_wp2_with fail
    refine (HV.out _ HO.out).mono ?_; rintro _ w1 ⟨rfl, hb1⟩
    have HS1 := Aside0.mk (HS.out.trans (hb1.mono (by rw [HSZ.out]; exact Nat.le_refl _)))
    clear hb1
    go_wp2_with fail
    go_ret2
    rw [HE.out.1, HE.out.2]
    exact ⟨_, rfl, (HX.out _ HS1.out).2.2.2.2, _, rfl, Kd.R_nil _ _ _ _ _⟩
  · cases h2 : vBooks L
    · have HE := Aside0.mk (sort_bad (O := O) (L := L) (by unfold okSort; rw [h1, h2]; rfl))
      rw [h1] at HV
      rw [h2] at HVB
      clear h1 h2
      go_enter Try.func82, Try.ntmps82
      go_wp2_with fail
      refine (HV.out _ HO.out).mono ?_; rintro _ w1 ⟨rfl, hb1⟩
      have HS1 := Aside0.mk (HS.out.trans (hb1.mono (by rw [HSZ.out]; exact Nat.le_refl _)))
      clear hb1
      go_wp2_with fail
      refine (HVB.out _ (HX.out _ HS1.out).2.2.2.1).mono ?_; rintro _ w2 ⟨rfl, hb2⟩
      have HS2 := Aside0.mk (HS1.out.trans (hb2.mono (HX.out _ HS1.out).2.1))
      clear hb2
      go_wp2_with fail
      go_ret2
      rw [HE.out.1, HE.out.2]
      exact ⟨_, rfl, (HX.out _ HS2.out).2.2.2.2, _, rfl, Kd.R_nil _ _ _ _ _⟩
    · have HE := Aside0.mk (sort_good (O := O) (L := L) (by unfold okSort; rw [h1, h2]; rfl))
      have hl := vBooks_len h2
      rw [h1] at HV
      rw [h2] at HVB
      clear h1 h2
      go_enter Try.func82, Try.ntmps82
      go_wp2_with fail
      refine (HV.out _ HO.out).mono ?_; rintro _ w1 ⟨rfl, hb1⟩
      have HS1 := Aside0.mk (HS.out.trans (hb1.mono (by rw [HSZ.out]; exact Nat.le_refl _)))
      clear hb1
      go_wp2_with fail
      refine (HVB.out _ (HX.out _ HS1.out).2.2.2.1).mono ?_; rintro _ w2 ⟨rfl, hb2⟩
      have HS2 := Aside0.mk (HS1.out.trans (hb2.mono (HX.out _ HS1.out).2.1))
      clear hb2
      go_wp2_with fail
      refine (clone_c A1 c1 L w2 (HX.out _ HS2.out).2.2.2.1 (by omega)).mono ?_; rintro _ w3 ⟨v, rfl, hb3, hv⟩
      have HS3 := Aside0.mk (HS2.out.trans (hb3.mono (HX.out _ HS2.out).2.1))
      have HV3 := Aside0.mk (show kBk.R 34 w3 (w.heap.size + 1) (fun _ => True) v L from Kd.R_lower hv (HX.out _ HS2.out).2.1)
      clear hb3 hv
      have HFN : Fun Try.prog 132 := ⟨_, Try.func132, rfl, rfl⟩
      have HCM := Aside0.mk (show ∀ g, v.ownBlock = some g → CmpOk 132 #[.pointer (some ⟨w.heap.size, 0, none⟩)] (cmpBy O) g w3 from fun g hg => ⟨HFN, fun W hW x y => by
        have h4 : Below (w.heap.size + 1) (w.alloc (.cells #[.slice A0 O.length c0] 25)) W := pw_below_grown HS3.out _ (HX.out _ HS3.out).2.1 hW (fun k hk => by
          cases hk; exact Kd.R_base HV3.out _ hg)
        have h5 := HX.out _ h4
        exact HCL.out _ W h5.1 h5.2.1 h5.2.2.1 x y⟩)
      go_wp2_with fail
      refine (sortStable_c v L _ _ (cmpBy O) (ltBy_wk O) _ _ w3 HV3.out (by omega) HCM.out).mono ?_; rintro _ w4 ⟨rfl, h5, h6⟩
      have H5 := Aside0.mk h5
      have HS4 := Aside0.mk (pw_below_grown HS3.out _ (HX.out _ HS3.out).2.1 h6 (fun k hk => Kd.R_base HV3.out _ hk))
      clear h5 h6
      go_wp2_with fail
      go_ret2
      rw [HE.out.1, HE.out.2]
      exact ⟨_, rfl, (HX.out _ HS4.out).2.2.2.2, _, rfl, Kd.R_lower H5.out (Nat.le_succ _)⟩
theorem put_get {O : List Bk} {z : Bk} {k : Nat} (h0 : 0 < k) (hk : k ≤ O.length) : (O.take k ++ z :: O.drop k)[k - 1]? = O[k - 1]? := by
  rw [List.getElem?_append_left (by rw [List.length_take]; omega), List.getElem?_take, if_pos (by omega)]
theorem put_set {O : List Bk} {z x : Bk} {k : Nat} (hk : k ≤ O.length) : (O.take k ++ z :: O.drop k).set k x = O.take k ++ x :: O.drop k := by
  have hl : (O.take k).length = k := by rw [List.length_take]; omega
  rw [List.set_append_right _ _ (by omega), hl, Nat.sub_self, List.set_cons_zero]
theorem put_step {O : List Bk} {z y : Bk} {k : Nat} (h0 : 0 < k) (hy : O[k - 1]? = some y) : (O.take k ++ z :: O.drop k).set k y = O.take (k - 1) ++ y :: O.drop (k - 1) := by
  have hl := (List.getElem?_eq_some_iff.1 hy).1
  rw [put_set (by omega)]
  have h1 : O.take k = O.take (k - 1) ++ [y] := by
    have := take_snoc hy
    rwa [show k - 1 + 1 = k by omega] at this
  have h2 : O.drop (k - 1) = y :: O.drop k := by
    have := drop_cons hy
    rwa [show k - 1 + 1 = k by omega] at this
  rw [h1, h2]
  simp
/-- A place that is reached: the list is sorted. -/
theorem put_end {lt : Bk → Bk → Bool} (hw : Srt.Wk lt) {L : List Bk} {i : Nat} {x : Bk} {k : Nat} (hx : L[i]? = some x) (hk : k ≤ (Srt.sortL lt (L.take i)).length) (h1 : ∀ y, y ∈ (Srt.sortL lt (L.take i)).drop k → lt x y = true)
    (h2 : k = 0 ∨ ∃ y, (Srt.sortL lt (L.take i))[k - 1]? = some y ∧ lt x y = false) :
    (Srt.sortL lt (L.take i)).take k ++ x :: (Srt.sortL lt (L.take i)).drop k = Srt.sortL lt (L.take (i + 1)) := by
  have ho := Srt.sortL_ok hw (L.take i)
  have hp := Srt.put_ok hw (x := x) (k := k) ho.1 h1 (by
    intro y hy
    rcases h2 with h2 | ⟨q, hq, hq2⟩
    · rw [h2] at hy; simp at hy
    · obtain ⟨j, hj, rfl⟩ := List.getElem_of_mem hy
      rw [List.length_take] at hj
      rw [List.getElem_take]
      by_cases e : j = k - 1
      · subst e
        obtain ⟨hl, he⟩ := List.getElem?_eq_some_iff.1 hq
        rw [he]; exact hq2
      · obtain ⟨hl, he⟩ := List.getElem?_eq_some_iff.1 hq
        have hu := List.pairwise_iff_getElem.1 ho.1 j (k - 1) (by omega) hl (by omega)
        rw [he] at hu
        exact hw.ntr _ _ _ hq2 hu)
  rw [take_snoc hx]
  exact Srt.sortL_of hw hp.1 ((Srt.Stab.app ho.2 (Srt.Stab.refl lt [x])).trans hp.2)
structure PutIn (lt : Bk → Bk → Bool) (x : Bk) (O C : List Bk) (k : Nat) : Prop where
  le : k ≤ O.length
  is : ∃ z, C = O.take k ++ z :: O.drop k
  up : ∀ y, y ∈ O.drop k → lt x y = true
theorem sortL_len {lt : Bk → Bk → Bool} (hw : Srt.Wk lt) (L : List Bk) : (Srt.sortL lt L).length = L.length := (Srt.Stab.length hw (Srt.sortL_ok hw L).2).symm
theorem sortL_mem {lt : Bk → Bk → Bool} (hw : Srt.Wk lt) (L : List Bk) (x : Bk) : x ∈ Srt.sortL lt L ↔ x ∈ L := (Srt.Stab.mem hw (Srt.sortL_ok hw L).2 x).symm
set_option maxHeartbeats 8000000 in
theorem l01Sorted_c (A0 A1 : Option Addr) (c0 c1 : Nat) (R : List Int) (L : List Bk) (w : World) (hO : (Kd.int .i8).C w A0 R.length R) (hk : OrdOk R) (hL : kBk.C w A1 L.length L) (hok : OkL L) (hn : L.length ≤ 60) :
    Calls Try.prog 130 #[.slice A0 R.length c0, .slice A1 L.length c1] w (RetQ w (NewBk w (Srt.sortL (ltBy R) L))) := by
  have HL := Aside0.mk hL
  have HR0 := Aside0.mk hO
  have HOK := Aside0.mk hok
  have HKK := Aside0.mk hk
  have hw := Aside0.mk (ltBy_wk R)
  clear hL hO hok hk
  go_enter Try.func130, Try.ntmps130
  go_wp2
  go_loopg [5, 6] L.length (fun gk v5 v6 wr => ∃ (i : Nat), i + gk = L.length ∧ v6 = .int .i64 i ∧ Aside0 (kBk.R 34 wr w.heap.size (fun _ => True) v5 (Srt.sortL (ltBy R) (L.take i))) ∧ Aside0 (Below w.heap.size w wr))
  case atStart => exact ⟨0, by omega, rfl, ⟨R_zero _ _ _ _ _ (Nat.le_refl _) trivial⟩, ⟨balloc (Below.refl _ _) _⟩⟩
  case round =>
    obtain ⟨i, hg, rfl, HR, HB⟩ := hrel
    have HG := Aside0.mk hg
    by_cases hlt : i < L.length
    · obtain ⟨OO, hOO⟩ : ∃ OO, OO = Srt.sortL (ltBy R) (L.take i) := ⟨_, rfl⟩
      rw [← hOO] at HR
      have HOO := Aside0.mk hOO
      have hOl : OO.length = i := by rw [hOO, sortL_len hw.out, List.length_take]; omega
      clear hOO
      obtain ⟨ad, x, rfl, hx, hxb⟩ := at_bk' (Kd.C_below HL.out HB.out) i hlt
      have HX := Aside0.mk hxb
      obtain ⟨x0, x1, x2, x3, x4, x5, x6, x7⟩ := hxb
      obtain ⟨A5, c5, rfl⟩ := Kd.R_slice HR.out
      rw [hOl] at HR ⊢
      have i0 : (0 : Int) ≤ (i : Int) := by omega
      have i1 : (i : Int) < (L.length : Int) := by omega
      clear hg
      go_wp2_with (at_builtin; refine bk_append (w := w) rfl (.tmp 17) (.tmp 22) rfl _ OO x rfl rfl HR.out HB.out (by omega) ?_; intro v1 w1 hR1 hB1 hg1; have HR1 := Aside0.mk hR1; have HB1 := Aside0.mk hB1; clear hR1 hB1 hg1)
      obtain ⟨g, cap, rfl, hgB, hgl, _⟩ := Kd.R_form HR1.out (by simp)
      have hC1 : (OO ++ [x]).length = i + 1 := by simp [hOl]
      rw [hC1] at HR1 ⊢
      have HR2 := Aside0.mk (show RowIs w.heap.size (fun _ => True) w1 g (i + 1) cap (OO ++ [x]) w1 from ⟨HR1.out, World.grownBy.refl _ _⟩)
      clear HR HR1 x0 x1 x2 x3 x4 x5 x6 x7
      obtain ⟨wo, rfl⟩ : ∃ wo : World, wo = wr := ⟨_, rfl⟩
      obtain ⟨gO, rfl⟩ : ∃ g : Nat, g = gk := ⟨_, rfl⟩
      go_loopg [7] i (fun gk v7 wr => ∃ (k : Nat) (C : List Bk), k = gk ∧ v7 = .int .i64 k ∧ Aside0 (PutIn (ltBy R) x OO C k) ∧ Aside0 (RowIs w.heap.size (fun _ => True) w1 g (i + 1) cap C wr) ∧ Aside0 (Below w.heap.size w wr))
      case atStart => exact ⟨i, _, rfl, rfl, ⟨⟨by omega, ⟨x, by rw [List.take_of_length_le (by omega), List.drop_of_length_le (by omega)]⟩, fun y hy => by rw [List.drop_of_length_le (by omega)] at hy; cases hy⟩⟩, HR2, HB1⟩
      case round =>
        clear HR2 HB1
        obtain ⟨k, C, rfl, rfl, HP, HR, HB⟩ := hrel
        have hki : k ≤ i := by have := HP.out.le; omega
        have hxb := HX.out.below (show Below wo.heap.size wo wo from Below.refl _ _)
        obtain ⟨ad', x', e1, hx', hxb'⟩ := at_bk' (Kd.C_below HL.out HB.out) i hlt
        injection e1 with e1
        subst e1
        obtain rfl : x' = x := by have := hx'.out; rw [hx.out] at this; exact (Option.some.inj this).symm
        clear hxb
        have HXB := Aside0.mk hxb'
        by_cases hk0 : k = 0
        · have e0 : decide (0 < k) = false := by simp; omega
          have HN := Aside0.mk (put_end (k := k) hw.out hx.out (by rw [← HOO.out]; omega) (by rw [← HOO.out]; exact HP.out.up) (.inl hk0))
          obtain ⟨x0, x1, x2, x3, x4, x5, x6, x7⟩ := hxb'
          have HK := Aside0.mk hk0
          have k0 : (0 : Int) ≤ (k : Int) := by omega
          have k1 : (k : Int) < (i : Int) + 1 := by omega
          clear hk0
          go_wp2_with fail
          go_quiet (fail)
          go_wp2_with (refine bk_store (w := w) w.heap.size rfl rfl (.tmp 54) (.tmp 53) rfl k _ x' (fun _ => True) rfl (by omega) rfl (Kd.R_drewN HR.out.1 _) (by omega) (bdrewN HB.out _) ?_; intro w3 hR3 hB3 hg3; have HR3 := Aside0.mk hR3; have HB3 := Aside0.mk hB3; clear hR3 hB3 hg3)
          go_roundg (gO - 1)
          case measure => have := HG.out; omega
          exact ⟨i + 1, by have := HG.out; omega, by go_num, ⟨by
            have h1 := HR3.out
            obtain ⟨z, hz⟩ := HP.out.is
            rw [hz, put_set HP.out.le, HOO.out, HN.out] at h1
            exact h1⟩, HB3⟩
        · have hk1 : k - 1 < i + 1 := by omega
          obtain ⟨y, hy, r0, r1, r2, r3, r4, r5, r6, r7, s0, s1, s2, s3, s4, s5, s6, s7⟩ := row_at HR.out.1 hk1
          have hyO : OO[k - 1]? = some y := by
            obtain ⟨z, hz⟩ := HP.out.is
            have := hy.out
            rwa [hz, put_get (by omega) HP.out.le] at this
          have hyL : y ∈ L := List.mem_of_mem_take ((sortL_mem hw.out _ y).1 (by rw [← HOO.out]; exact mem_of hyO))
          have HYO := Aside0.mk hyO
          have HC := Aside0.mk (l01Compare_c A0 c0 R (ad.add (i * 8)) ⟨g, (k - 1) * 8, none⟩ x' y (HOK.out _ (mem_of hx.out)) (HOK.out _ hyL) wr.drew (Kd.C_below HR0.out (bdrew HB.out)) HKK.out (hxb'.below (bdrew (Below.refl _ _))) ⟨r0, r1, r2, r3, r4, r5, r6, r7⟩)
          have e0 : decide (0 < k) = true := by simp; omega
          have q0 : (0 : Int) ≤ (k : Int) := by omega
          have q1 : (1 : Int) ≤ (k : Int) := by omega
          have q2 : (k : Int) < (i : Int) + 1 := by omega
          have q3 : (k : Int) < (i : Int) + 1 + 1 := by omega
          have q4 : (k : Int) - 1 < (i : Int) + 1 := by omega
          have q5 : (0 : Int) ≤ (k : Int) - 1 := by omega
          have q6 : ((k : Int) - 1).toNat = k - 1 := by omega
          have q7 : IntKind.i64.wrap ((k : Int) - 1) = (k : Int) - 1 := by simp only [IntKind.wrap, IntKind.bits, IntKind.signed, Bool.true_and, decide_eq_true_eq, ge_iff_le]; split <;> omega
          have HK := Aside0.mk hk0
          clear hyO hyL hk0 hxb' r0 r1 r2 r3 r4 r5 r6 r7 s0 s1 s2 s3 s4 s5 s6 s7
          go_wp2_with fail
          go_still_tail 11, (by kernel_rfl)
          go_wp2_with fail
          refine HC.out.mono ?_; rintro _ w2 ⟨rfl, hb2⟩
          have HR2 := Aside0.mk (RowIs.below (RowIs.drew HR.out) hb2)
          have HB2 := Aside0.mk (bstep (bdrew HB.out) hb2)
          have HX2 := Aside0.mk ((HXB.out.below (bdrew (Below.refl _ _))).below hb2)
          clear hb2
          by_cases hlow : cmpBy R x' y < 0
          · have e4 : decide (cmpBy R x' y < 0) = true := by simpa using hlow
            have HS := Aside0.mk (show ∀ q, q ∈ OO.drop (k - 1) → ltBy R x' q = true by
              intro q hq
              rw [drop_cons HYO.out] at hq
              rcases List.mem_cons.1 hq with rfl | hq
              · exact e4
              · exact HP.out.up q (by rw [show k = k - 1 + 1 by have := HK.out; omega]; exact hq))
            obtain ⟨r0, r1, r2, r3, r4, r5, r6, r7, s0, s1, s2, s3, s4, s5, s6, s7⟩ := row_of HR2.out.1 hk1 hy.out
            go_wp2_with (refine bk_store (w := w) w.heap.size rfl rfl (.tmp 45) (.tmp 44) rfl k _ y (fun _ => True) rfl (by omega) rfl HR2.out.1 (by omega) HB2.out ?_; intro w3 hR3 hB3 hg3; have HR3 := Aside0.mk (show RowIs w.heap.size (fun _ => True) w1 g (i + 1) cap (C.set k y) w3 from ⟨hR3, HR2.out.2.trans hg3⟩); have HB3 := Aside0.mk hB3; clear hR3 hB3 hg3)
            go_roundg (k - 1)
            case measure => have := HK.out; omega
            exact ⟨k - 1, C.set k y, rfl, by first | go_num | (congr 1; have := HK.out; omega), ⟨⟨by omega, ⟨y, by obtain ⟨z, hz⟩ := HP.out.is; rw [hz]; exact put_step (by have := HK.out; omega) HYO.out⟩, HS.out⟩⟩, HR3, HB3⟩
          · have e4 : decide (cmpBy R x' y < 0) = false := by simpa using hlow
            have HN := Aside0.mk (put_end (k := k) hw.out hx.out (by rw [← HOO.out]; omega) (by rw [← HOO.out]; exact HP.out.up) (.inr ⟨y, by rw [← HOO.out]; exact HYO.out, e4⟩))
            obtain ⟨x0, x1, x2, x3, x4, x5, x6, x7⟩ := HX2.out
            go_wp2_with (refine bk_store (w := w) w.heap.size rfl rfl (.tmp 54) (.tmp 53) rfl k _ x' (fun _ => True) rfl (by omega) rfl HR2.out.1 (by omega) HB2.out ?_; intro w3 hR3 hB3 hg3; have HR3 := Aside0.mk hR3; have HB3 := Aside0.mk hB3; clear hR3 hB3 hg3)
            go_roundg (gO - 1)
            case measure => have := HG.out; omega
            exact ⟨i + 1, by have := HG.out; omega, by go_num, ⟨by
              have h1 := HR3.out
              obtain ⟨z, hz⟩ := HP.out.is
              rw [hz, put_set HP.out.le, HOO.out, HN.out] at h1
              exact h1⟩, HB3⟩
    · go_wp2
      go_ret
      exact ⟨_, rfl, HB.out, by have := HR.out; rw [List.take_of_length_le (by omega)] at this; exact this⟩
theorem specSortBooks_c (A0 A1 : Option Addr) (c0 c1 : Nat) (O : List Int) (L : List Bk) (hok : OkL L) (w : World) (hO : (Kd.int .i8).C w A0 O.length O) (hk : ∀ x ∈ O, I8 x) (hL : kBk.C w A1 L.length L) :
    Calls Try.prog 81 #[.slice A0 O.length c0, .slice A1 L.length c1] w (RetQ w (TupB w (sortV O L) (sortE O L))) := by
  have HL := Aside0.mk hL
  have HO := Aside0.mk hO
  have HOK := Aside0.mk hok
  have HV := Aside0.mk (l01Order_c A0 c0 O w hO hk)
  have HVB := Aside0.mk (fun W h => l01Ok_c A1 c1 L hok W h)
  cases h1 : vOrd O
  · have HE := Aside0.mk (sort_bad (O := O) (L := L) (by unfold okSort; rw [h1]; rfl))
    rw [h1] at HV
    clear h1 hO hL hok
    go_enter Try.func81, Try.ntmps81
    go_wp2_with fail
    refine HV.out.mono ?_; rintro _ w1 ⟨rfl, hb1⟩
    have HZ := Aside0.mk (R_zero kBk 34 w1 w.heap.size (fun _ => True) hb1.size trivial)
    have HB2 := Aside0.mk (balloc hb1 (.cells #[] 34))
    clear hb1
    go_wp2_with fail
    go_ret2
    rw [HE.out.1, HE.out.2]
    exact ⟨_, rfl, HB2.out, _, rfl, HZ.out⟩
  · cases h2 : vBooks L
    · have HE := Aside0.mk (sort_bad (O := O) (L := L) (by unfold okSort; rw [h1, h2]; rfl))
      rw [h1] at HV
      rw [h2] at HVB
      clear h1 h2 hO hL hok
      go_enter Try.func81, Try.ntmps81
      go_wp2_with fail
      refine HV.out.mono ?_; rintro _ w1 ⟨rfl, hb1⟩
      go_wp2_with fail
      refine (HVB.out _ (Kd.C_below HL.out hb1)).mono ?_; rintro _ w2 ⟨rfl, hb2⟩
      have hb12 := bstep hb1 hb2
      have HZ := Aside0.mk (R_zero kBk 34 w2 w.heap.size (fun _ => True) hb12.size trivial)
      have HB2 := Aside0.mk (balloc hb12 (.cells #[] 34))
      clear hb1 hb2 hb12
      go_wp2_with fail
      go_ret2
      rw [HE.out.1, HE.out.2]
      exact ⟨_, rfl, HB2.out, _, rfl, HZ.out⟩
    · have HE := Aside0.mk (sort_good (O := O) (L := L) (by unfold okSort; rw [h1, h2]; rfl))
      have HN := Aside0.mk (vBooks_len h2)
      have HK := Aside0.mk (ordOk_of hk h1)
      rw [h1] at HV
      rw [h2] at HVB
      clear h1 h2 hO hL hok
      go_enter Try.func81, Try.ntmps81
      go_wp2_with fail
      refine HV.out.mono ?_; rintro _ w1 ⟨rfl, hb1⟩
      go_wp2_with fail
      refine (HVB.out _ (Kd.C_below HL.out hb1)).mono ?_; rintro _ w2 ⟨rfl, hb2⟩
      have HB2 := Aside0.mk (bstep hb1 hb2)
      clear hb1 hb2
      go_wp2_with fail
      refine (l01Sorted_c A0 A1 c0 c1 O L w2 (Kd.C_below HO.out HB2.out) HK.out (Kd.C_below HL.out HB2.out) HOK.out HN.out).mono ?_; rintro _ w3 ⟨v, rfl, hb3, hv⟩
      have HB3 := Aside0.mk (bstep HB2.out hb3)
      have HV3 := Aside0.mk (show NewBk w (Srt.sortL (ltBy O) L) v w3 from Kd.R_lower hv HB2.out.size)
      clear hb3 hv
      go_wp2_with fail
      go_ret2
      rw [HE.out.1, HE.out.2]
      exact ⟨_, rfl, HB3.out, _, rfl, HV3.out⟩
end Go.Proofs.Ytgdhopcbiekhhaa
