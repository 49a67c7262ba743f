/- Books stand on shelves: BookAt, ShelfOfClass; the program's and the reference's. -/
import Derived.Test.YtdippdkneeocfaaPos
import Derived.StillTailTactics
import Derived.Still
import Derived.Deep.QuietTactic
import Derived.BigQuiet
namespace Go.Proofs.Ytdippdkneeocfaa
open Go.RowKit Go.Proofs.YtdippdkneeocfaaW.PrintWords Go.Proofs.YtdippdkneeocfaaW.PrintMore
set_option linter.unusedVariables false
set_option linter.unusedSimpArgs false
set_option maxRecDepth 100000

/-- The book that covers a place, -1 if none does: g books from i on, with width q ahead of them. -/
def baGo (L : List Bk) (pl : Int) : Nat → Nat → Int → Int
  | 0, _, _ => -1
  | g + 1, i, q => if pl < q + (L.getD i zBk).wd then (i : Int) else baGo L pl g (i + 1) (q + (L.getD i zBk).wd)
theorem baGo_hit {L : List Bk} {pl q : Int} {g i : Nat} {b : Bk} (hg : 0 < g) (hb : L[i]? = some b) (h : pl < q + b.wd) : baGo L pl g i q = (i : Int) := by
  match g, hg with
  | g + 1, _ => rw [baGo, List.getD_eq_getElem?_getD, hb]; exact if_pos h
theorem baGo_next {L : List Bk} {pl q : Int} {g i : Nat} {b : Bk} (hg : 0 < g) (hb : L[i]? = some b) (h : ¬ pl < q + b.wd) : baGo L pl g i q = baGo L pl (g - 1) (i + 1) (q + b.wd) := by
  match g, hg with
  | g + 1, _ => rw [baGo, List.getD_eq_getElem?_getD, hb]; exact if_neg h
def baR (L : List Bk) (E : List Int) (s : Nat) (pl : Int) : Int := baGo L pl (E.getD s 0 - bef E s).toNat (bef E s).toNat 0
def baIn (k : Cs) (sh pl : Int) : Bool := inR sh 0 ((k.hs.length : Int) - 1) && inR pl 0 (k.wd - 1)
def baC (k : Cs) (L : List Bk) (E : List Int) (sh pl : Int) : Int := if layC k L E = 0 then (if baIn k sh pl = true then (if baR L E sh.toNat pl < 0 then 6 else 0) else 2) else layC k L E
def baV (k : Cs) (L : List Bk) (E : List Int) (sh pl : Int) : Int := if baC k L E sh pl = 0 then baR L E sh.toNat pl else 0
theorem ba_bad {k : Cs} {L : List Bk} {E : List Int} {sh pl e : Int} (h : baC k L E sh pl = e) (he : e ≠ 0) : baV k L E sh pl = 0 ∧ baC k L E sh pl = e := ⟨by unfold baV; rw [h, if_neg he], h⟩
theorem ba_ok {k : Cs} {L : List Bk} {E : List Int} {sh pl r : Int} (h1 : layC k L E = 0) (h2 : baIn k sh pl = true) (hr : baR L E sh.toNat pl = r) : baV k L E sh pl = (if r < 0 then 0 else r) ∧ baC k L E sh pl = (if r < 0 then 6 else 0) := by
  have h3 : baC k L E sh pl = if r < 0 then 6 else 0 := by unfold baC; rw [if_pos h1, if_pos h2, hr]
  refine ⟨?_, h3⟩
  unfold baV
  rw [h3]
  by_cases h4 : r < 0
  · rw [if_pos h4, if_pos h4]; rfl
  · rw [if_neg h4, if_neg h4, if_pos rfl, hr]
theorem ba_hit {k : Cs} {L : List Bk} {E : List Int} {sh pl : Int} {i : Nat} (h : ∀ r, baR L E sh.toNat pl = r → baV k L E sh pl = (if r < 0 then 0 else r) ∧ baC k L E sh pl = (if r < 0 then 6 else 0)) (hr : baR L E sh.toNat pl = (i : Int)) : baV k L E sh pl = (i : Int) ∧ baC k L E sh pl = 0 := by
  have := h _ hr
  rw [if_neg (by omega), if_neg (by omega)] at this
  exact this
theorem ba_none {k : Cs} {L : List Bk} {E : List Int} {sh pl : Int} (h : ∀ r, baR L E sh.toNat pl = r → baV k L E sh pl = (if r < 0 then 0 else r) ∧ baC k L E sh pl = (if r < 0 then 6 else 0)) (hr : baR L E sh.toNat pl = -1) : baV k L E sh pl = 0 ∧ baC k L E sh pl = 6 := by
  have := h _ hr
  rw [if_pos (by decide), if_pos (by decide)] at this
  exact this
set_option maxHeartbeats 4000000 in
theorem BookAt_c (k : Cs) (A : Option Addr) (c : Nat) (A1 : Option Addr) (c1 : Nat) (L : List Bk) (A2 : Option Addr) (c2 : Nat) (E : List Int) (sh pl : Int) (hok : k.ok) (hoL : OkL L) (hc1 : L.length ≤ c1) (w : World) (hC : (Kd.int .i16).C w A k.hs.length k.hs) (hL : kBk.C w A1 L.length L) (hE : (Kd.int .i64).C w A2 E.length E) :
    Calls Try.prog 65 #[k.val A c, .slice A1 L.length c1, .slice A2 E.length c2, .int .i64 sh, .int .i64 pl] w (Ret w (.tuple #[.int .i64 (baV k L E sh pl), .int .i64 (baC k L E sh pl)])) := by
  have hm := Kd.C_max hC
  have hm1 := Kd.C_max hL
  have hm2 := Kd.C_max hE
  have HLC := Aside0.mk (show Calls Try.prog 136 #[k.val A c, .slice A1 L.length c1, .slice A2 E.length c2] (w.alloc (.cells #[.int .i16 k.wd, .int .i32 k.ld, .slice A k.hs.length c] 51)) (Ret (w.alloc (.cells #[.int .i16 k.wd, .int .i32 k.ld, .slice A k.hs.length c] 51)) (.int .i64 (layC k L E))) from layoutCode_c k A c A1 c1 L A2 c2 E hok hoL hc1 _ (Kd.C_alloc hC _) (Kd.C_alloc hL _) (Kd.C_alloc hE _))
  have HC := Aside0.mk hC
  have HL := Aside0.mk hL
  have HE2 := Aside0.mk hE
  have HB := Aside0.mk (balloc (Below.refl w.heap.size w) (.cells #[.int .i16 k.wd, .int .i32 k.ld, .slice A k.hs.length c] 51))
  have HX := Aside0.mk (CsAt.box w k A c 51)
  clear hC hL hE
  simp only [Cs.val] at HLC ⊢
  obtain ⟨⟨o1, o2⟩, _, _⟩ := hok
  by_cases hv : layC k L E = 0
  · have HP := Aside0.mk (layP_of hv)
    have hn := HP.out.n
    have HW := Aside0.mk (fun W => show Calls Try.prog 129 #[.int .i64 sh, .int .i64 0, .int .i64 ((E.length : Int) - 1)] W (RetS W (.bool (inR sh 0 ((k.hs.length : Int) - 1)))) by rw [hn]; exact within64_c sh 0 _ W)
    have HW2 := Aside0.mk (fun W => within64_c pl 0 (k.wd - 1) W)
    have iw := wrap_pred _ hm2
    have iw2 : IntKind.i64.wrap (k.wd - 1) = k.wd - 1 := by simp only [IntKind.wrap, IntKind.bits, IntKind.signed, Bool.true_and, decide_eq_true_eq, ge_iff_le]; split <;> omega
    cases v3 : inR sh 0 ((k.hs.length : Int) - 1)
    · have HR := Aside0.mk (ba_bad (k := k) (L := L) (E := E) (sh := sh) (pl := pl) (e := 2) (by unfold baC baIn; rw [if_pos hv, v3]; rfl) (by decide))
      rw [hv] at HLC
      rw [v3] at HW
      clear v3 hv hn
      obtain ⟨y0, y1, y2⟩ := HX.out
      go_enter Try.func65, Try.ntmps65
      go_wp2_with fail
      refine HLC.out.mono ?_; rintro _ w1 ⟨rfl, hb1⟩
      have HB1 := Aside0.mk (bstep HB.out hb1)
      have HX1 := Aside0.mk (HX.out.below hb1)
      clear hb1 y0 y1 y2
      obtain ⟨y0, y1, y2⟩ := HX1.out
      go_wp2_with fail
      refine (HW.out _).mono ?_; rintro _ w3 ⟨rfl, rfl⟩
      go_wp2_with fail
      go_ret2
      exact ⟨ret_two HR.out.1.symm HR.out.2.symm, HB1.out⟩
    · cases v4 : inR pl 0 (k.wd - 1)
      · have HR := Aside0.mk (ba_bad (k := k) (L := L) (E := E) (sh := sh) (pl := pl) (e := 2) (by unfold baC baIn; rw [if_pos hv, v3, v4]; rfl) (by decide))
        rw [hv] at HLC
        rw [v3] at HW
        rw [v4] at HW2
        clear v3 v4 hv hn
        obtain ⟨y0, y1, y2⟩ := HX.out
        go_enter Try.func65, Try.ntmps65
        go_wp2_with fail
        refine HLC.out.mono ?_; rintro _ w1 ⟨rfl, hb1⟩
        have HB1 := Aside0.mk (bstep HB.out hb1)
        have HX1 := Aside0.mk (HX.out.below hb1)
        clear hb1 y0 y1 y2
        obtain ⟨y0, y1, y2⟩ := HX1.out
        go_wp2_with fail
        refine (HW.out _).mono ?_; rintro _ w3 ⟨rfl, rfl⟩
        go_wp2_with fail
        refine (HW2.out _).mono ?_; rintro _ w3 ⟨rfl, rfl⟩
        go_wp2_with fail
        go_ret2
        exact ⟨ret_two HR.out.1.symm HR.out.2.symm, HB1.out⟩
      · obtain ⟨b1, b2⟩ := inR_iff.1 v3
        have HR := Aside0.mk (fun r => ba_ok (k := k) (L := L) (E := E) (sh := sh) (pl := pl) (r := r) hv (by unfold baIn; rw [v3, v4]; rfl))
        obtain ⟨s, rfl⟩ : ∃ s : Nat, sh = s := ⟨sh.toNat, by omega⟩
        have hsl : s < E.length := by omega
        obtain ⟨e, he⟩ : ∃ e, E[s]? = some e := ⟨_, List.getElem?_eq_getElem hsl⟩
        have hse := HP.out.s s hsl
        rw [getD_of he] at hse
        obtain ⟨⟨hae, heL⟩, _⟩ := hse
        have ha0 := (HP.out.nn s (by omega)).1
        have HF := Aside0.mk (fun W h => before_c A2 c2 E s (by omega) W h)
        have HFO := Aside0.mk (FitOk.of HP.out.list)
        have hl60 := HFO.out.len
        have HBA := Aside0.mk (show baR L E (s : Int).toNat pl = baGo L pl (e - bef E s).toNat (bef E s).toNat 0 by unfold baR; rw [Int.toNat_natCast, getD_of he])
        have HEE := Aside0.mk he
        rw [hv] at HLC
        rw [v3] at HW
        rw [v4] at HW2
        clear v3 v4 hv hn he b1 b2
        generalize bef E s = a at HF HBA hae ha0
        obtain ⟨y0, y1, y2⟩ := HX.out
        go_enter Try.func65, Try.ntmps65
        go_wp2_with fail
        refine HLC.out.mono ?_; rintro _ w1 ⟨rfl, hb1⟩
        have HB1 := Aside0.mk (bstep HB.out hb1)
        have HX1 := Aside0.mk (HX.out.below hb1)
        clear hb1 y0 y1 y2
        obtain ⟨y0, y1, y2⟩ := HX1.out
        go_wp2_with fail
        refine (HW.out _).mono ?_; rintro _ w3 ⟨rfl, rfl⟩
        go_wp2_with fail
        refine (HW2.out _).mono ?_; rintro _ w3 ⟨rfl, rfl⟩
        go_wp2_with fail
        refine (HF.out _ (Kd.C_below HE2.out HB1.out)).mono ?_; rintro _ w4 ⟨rfl, rfl⟩
        clear y0 y1 y2 HF HW HW2
        go_wp2_with fail
        go_loopg [13, 14] (e - a).toNat (fun gk v13 v14 wr => ∃ i : Nat, ∃ q : Int, (i : Int) + (gk : Int) = e ∧ v14 = .int .i64 i ∧ v13 = .int .i64 q ∧ Aside0 (baGo L pl (e - a).toNat a.toNat 0 = baGo L pl gk i q ∧ q = wdS L a i ∧ a ≤ (i : Int)) ∧ w1 = wr)
        case atStart => exact ⟨a.toNat, 0, by omega, by rw [Int.toNat_of_nonneg ha0], rfl, ⟨rfl, by rw [Int.toNat_of_nonneg ha0, wdS_nil], by omega⟩, rfl⟩
        case round =>
          obtain ⟨i, q, hk, rfl, rfl, hp, rfl⟩ := hrel
          have HK := Aside0.mk hk
          obtain ⟨q1, q2⟩ := wdS_bd HFO.out a i
          rw [← hp.out.2.1] at q1 q2
          obtain ⟨ad2, e', rfl, hbe, hxe⟩ := at_int' (Kd.C_below HE2.out HB1.out) s hsl
          have hee : e' = e := by have h1 := hbe.out; rw [HEE.out] at h1; exact (Option.some.inj h1).symm
          subst hee
          have s0 : (0 : Int) ≤ (s : Int) := by omega
          have s1 : (s : Int) < (E.length : Int) := by omega
          by_cases hlt : (i : Int) < e'
          · obtain ⟨ad, bk, rfl, hbk, x0, x1, x2, x3, x4, x5, x6, x7⟩ := at_bk (Kd.C_below HL.out HB1.out) i (by omega)
            obtain ⟨⟨u1, u2⟩, _⟩ := HFO.out.bk bk (mem_of hbk.out)
            have HN := Aside0.mk (show q + bk.wd = wdS L a ((i : Int) + 1) by rw [hp.out.2.1]; exact (wdS_step HFO.out ha0 hp.out.2.2 hbk.out).symm)
            have i0 : (0 : Int) ≤ (i : Int) := by omega
            have i1 : (i : Int) < (L.length : Int) := by omega
            have hg : 0 < gk := by omega
            clear hk
            by_cases hq : pl < q + bk.wd
            · have HH := Aside0.mk (ba_hit HR.out (by rw [HBA.out, hp.out.1]; exact baGo_hit hg hbk.out hq))
              go_wp2
              go_ret2
              exact ⟨ret_two HH.out.1.symm HH.out.2.symm, HB1.out⟩
            · have HH := Aside0.mk (hp.out.1.trans (baGo_next hg hbk.out hq))
              go_wp2
              go_roundg (gk - 1)
              case measure => have := HK.out; omega
              case rel => exact ⟨i + 1, q + bk.wd, by have := HK.out; omega, by go_num, by go_num, ⟨HH.out, by rw [HN.out]; rfl, by have := hp.out.2.2; omega⟩, rfl⟩
          · have hg : gk = 0 := by omega
            have HH := Aside0.mk (ba_none HR.out (by rw [HBA.out, hp.out.1, hg]; rfl))
            clear hk hg
            go_wp2
            go_ret2
            exact ⟨ret_two HH.out.1.symm HH.out.2.symm, HB1.out⟩
  · have HR := Aside0.mk (ba_bad (k := k) (L := L) (E := E) (sh := sh) (pl := pl) (e := layC k L E) (by unfold baC; rw [if_neg hv]) hv)
    have bq : (layC k L E != 0) = true := by simpa using hv
    generalize layC k L E = e at HLC HR bq
    clear hv
    obtain ⟨y0, y1, y2⟩ := HX.out
    go_enter Try.func65, Try.ntmps65
    go_wp2_with fail
    refine HLC.out.mono ?_; rintro _ w1 ⟨rfl, hb1⟩
    have HB1 := Aside0.mk (bstep HB.out hb1)
    have HX1 := Aside0.mk (HX.out.below hb1)
    clear hb1 y0 y1 y2
    obtain ⟨y0, y1, y2⟩ := HX1.out
    go_wp2_with fail
    go_ret2
    exact ⟨ret_two HR.out.1.symm HR.out.2.symm, HB1.out⟩
set_option maxHeartbeats 4000000 in
theorem specBookAt_c (k : Cs) (A : Option Addr) (c : Nat) (A1 : Option Addr) (c1 : Nat) (L : List Bk) (A2 : Option Addr) (c2 : Nat) (E : List Int) (sh pl : Int) (hok : k.ok) (hoL : OkL L) (hc1 : L.length ≤ c1) (w : World) (hC : (Kd.int .i16).C w A k.hs.length k.hs) (hL : kBk.C w A1 L.length L) (hE : (Kd.int .i64).C w A2 E.length E) :
    Calls Try.prog 64 #[k.val A c, .slice A1 L.length c1, .slice A2 E.length c2, .int .i64 sh, .int .i64 pl] w (Ret w (.tuple #[.int .i64 (baV k L E sh pl), .int .i64 (baC k L E sh pl)])) := by
  have hm := Kd.C_max hC
  have hm1 := Kd.C_max hL
  have hm2 := Kd.C_max hE
  have HLC := Aside0.mk (show Calls Try.prog 134 #[.pointer (some ⟨w.heap.size, 0, none⟩), .slice A1 L.length c1, .slice A2 E.length c2] (w.alloc (.cells #[.int .i16 k.wd, .int .i32 k.ld, .slice A k.hs.length c] 51)) (Ret (w.alloc (.cells #[.int .i16 k.wd, .int .i32 k.ld, .slice A k.hs.length c] 51)) (.int .i64 (layC k L E))) from l02Laid_c k A c _ A1 c1 L A2 c2 E hok hoL hc1 _ (CsAt.box w k A c 51) (Kd.C_alloc hC _) (Kd.C_alloc hL _) (Kd.C_alloc hE _))
  have HC := Aside0.mk hC
  have HL := Aside0.mk hL
  have HE2 := Aside0.mk hE
  have HB := Aside0.mk (balloc (Below.refl w.heap.size w) (.cells #[.int .i16 k.wd, .int .i32 k.ld, .slice A k.hs.length c] 51))
  have HX := Aside0.mk (CsAt.box w k A c 51)
  clear hC hL hE
  simp only [Cs.val] at HLC ⊢
  obtain ⟨⟨o1, o2⟩, _, _⟩ := hok
  by_cases hv : layC k L E = 0
  · have HP := Aside0.mk (layP_of hv)
    have hn := HP.out.n
    have HW := Aside0.mk (fun W => l00In_c sh 0 ((k.hs.length : Int) - 1) W)
    have HW2 := Aside0.mk (fun W => l00In_c pl 0 (k.wd - 1) W)
    have iw := wrap_pred _ hm
    have iw2 : IntKind.i64.wrap (k.wd - 1) = k.wd - 1 := by simp only [IntKind.wrap, IntKind.bits, IntKind.signed, Bool.true_and, decide_eq_true_eq, ge_iff_le]; split <;> omega
    cases v3 : inR sh 0 ((k.hs.length : Int) - 1)
    · have HR := Aside0.mk (ba_bad (k := k) (L := L) (E := E) (sh := sh) (pl := pl) (e := 2) (by unfold baC baIn; rw [if_pos hv, v3]; rfl) (by decide))
      rw [hv] at HLC
      rw [v3] at HW
      clear v3 hv hn
      obtain ⟨y0, y1, y2⟩ := HX.out
      go_enter Try.func64, Try.ntmps64
      go_wp2_with fail
      refine HLC.out.mono ?_; rintro _ w1 ⟨rfl, hb1⟩
      have HB1 := Aside0.mk (bstep HB.out hb1)
      have HX1 := Aside0.mk (HX.out.below hb1)
      clear hb1 y0 y1 y2
      obtain ⟨y0, y1, y2⟩ := HX1.out
      go_wp2_with fail
      refine (HW.out _).mono ?_; rintro _ w3 ⟨rfl, rfl⟩
      go_wp2_with fail
      go_ret2
      exact ⟨ret_two HR.out.1.symm HR.out.2.symm, HB1.out⟩
    · cases v4 : inR pl 0 (k.wd - 1)
      · have HR := Aside0.mk (ba_bad (k := k) (L := L) (E := E) (sh := sh) (pl := pl) (e := 2) (by unfold baC baIn; rw [if_pos hv, v3, v4]; rfl) (by decide))
        rw [hv] at HLC
        rw [v3] at HW
        rw [v4] at HW2
        clear v3 v4 hv hn
        obtain ⟨y0, y1, y2⟩ := HX.out
        go_enter Try.func64, Try.ntmps64
        go_wp2_with fail
        refine HLC.out.mono ?_; rintro _ w1 ⟨rfl, hb1⟩
        have HB1 := Aside0.mk (bstep HB.out hb1)
        have HX1 := Aside0.mk (HX.out.below hb1)
        clear hb1 y0 y1 y2
        obtain ⟨y0, y1, y2⟩ := HX1.out
        go_wp2_with fail
        refine (HW.out _).mono ?_; rintro _ w3 ⟨rfl, rfl⟩
        go_wp2_with fail
        refine (HW2.out _).mono ?_; rintro _ w3 ⟨rfl, rfl⟩
        go_wp2_with fail
        go_ret2
        exact ⟨ret_two HR.out.1.symm HR.out.2.symm, HB1.out⟩
      · obtain ⟨b1, b2⟩ := inR_iff.1 v3
        have HR := Aside0.mk (fun r => ba_ok (k := k) (L := L) (E := E) (sh := sh) (pl := pl) (r := r) hv (by unfold baIn; rw [v3, v4]; rfl))
        obtain ⟨s, rfl⟩ : ∃ s : Nat, sh = s := ⟨sh.toNat, by omega⟩
        have hsl : s < E.length := by omega
        obtain ⟨e, he⟩ : ∃ e, E[s]? = some e := ⟨_, List.getElem?_eq_getElem hsl⟩
        have hse := HP.out.s s hsl
        rw [getD_of he] at hse
        obtain ⟨⟨hae, heL⟩, _⟩ := hse
        have ha0 := (HP.out.nn s (by omega)).1
        have HF := Aside0.mk (fun W h => l02From_c A2 c2 E s (by omega) W h)
        have HFO := Aside0.mk (FitOk.of HP.out.list)
        have hl60 := HFO.out.len
        have HBA := Aside0.mk (show baR L E (s : Int).toNat pl = baGo L pl (e - bef E s).toNat (bef E s).toNat 0 by unfold baR; rw [Int.toNat_natCast, getD_of he])
        have HEE := Aside0.mk he
        rw [hv] at HLC
        rw [v3] at HW
        rw [v4] at HW2
        clear v3 v4 hv hn he b1 b2
        generalize bef E s = a at HF HBA hae ha0
        obtain ⟨y0, y1, y2⟩ := HX.out
        go_enter Try.func64, Try.ntmps64
        go_wp2_with fail
        refine HLC.out.mono ?_; rintro _ w1 ⟨rfl, hb1⟩
        have HB1 := Aside0.mk (bstep HB.out hb1)
        have HX1 := Aside0.mk (HX.out.below hb1)
        clear hb1 y0 y1 y2
        obtain ⟨y0, y1, y2⟩ := HX1.out
        go_wp2_with fail
        refine (HW.out _).mono ?_; rintro _ w3 ⟨rfl, rfl⟩
        go_wp2_with fail
        refine (HW2.out _).mono ?_; rintro _ w3 ⟨rfl, rfl⟩
        go_wp2_with fail
        refine (HF.out _ (Kd.C_below HE2.out HB1.out)).mono ?_; rintro _ w4 ⟨rfl, rfl⟩
        clear y0 y1 y2 HF HW HW2
        go_wp2_with fail
        go_loopg [13, 14] (e - a).toNat (fun gk v13 v14 wr => ∃ i : Nat, ∃ q : Int, (i : Int) + (gk : Int) = e ∧ v14 = .int .i64 i ∧ v13 = .int .i64 q ∧ Aside0 (baGo L pl (e - a).toNat a.toNat 0 = baGo L pl gk i q ∧ q = wdS L a i ∧ a ≤ (i : Int)) ∧ w1 = wr)
        case atStart => exact ⟨a.toNat, 0, by omega, by rw [Int.toNat_of_nonneg ha0], rfl, ⟨rfl, by rw [Int.toNat_of_nonneg ha0, wdS_nil], by omega⟩, rfl⟩
        case round =>
          obtain ⟨i, q, hk, rfl, rfl, hp, rfl⟩ := hrel
          have HK := Aside0.mk hk
          obtain ⟨q1, q2⟩ := wdS_bd HFO.out a i
          rw [← hp.out.2.1] at q1 q2
          obtain ⟨ad2, e', rfl, hbe, hxe⟩ := at_int' (Kd.C_below HE2.out HB1.out) s hsl
          have hee : e' = e := by have h1 := hbe.out; rw [HEE.out] at h1; exact (Option.some.inj h1).symm
          subst hee
          have s0 : (0 : Int) ≤ (s : Int) := by omega
          have s1 : (s : Int) < (E.length : Int) := by omega
          by_cases hlt : (i : Int) < e'
          · obtain ⟨ad, bk, rfl, hbk, x0, x1, x2, x3, x4, x5, x6, x7⟩ := at_bk (Kd.C_below HL.out HB1.out) i (by omega)
            obtain ⟨⟨u1, u2⟩, _⟩ := HFO.out.bk bk (mem_of hbk.out)
            have HN := Aside0.mk (show q + bk.wd = wdS L a ((i : Int) + 1) by rw [hp.out.2.1]; exact (wdS_step HFO.out ha0 hp.out.2.2 hbk.out).symm)
            have i0 : (0 : Int) ≤ (i : Int) := by omega
            have i1 : (i : Int) < (L.length : Int) := by omega
            have hg : 0 < gk := by omega
            clear hk
            by_cases hq : pl < q + bk.wd
            · have HH := Aside0.mk (ba_hit HR.out (by rw [HBA.out, hp.out.1]; exact baGo_hit hg hbk.out hq))
              go_wp2
              go_ret2
              exact ⟨ret_two HH.out.1.symm HH.out.2.symm, HB1.out⟩
            · have HH := Aside0.mk (hp.out.1.trans (baGo_next hg hbk.out hq))
              go_wp2
              go_roundg (gk - 1)
              case measure => have := HK.out; omega
              case rel => exact ⟨i + 1, q + bk.wd, by have := HK.out; omega, by go_num, by go_num, ⟨HH.out, by rw [HN.out]; rfl, by have := hp.out.2.2; omega⟩, rfl⟩
          · have hg : gk = 0 := by omega
            have HH := Aside0.mk (ba_none HR.out (by rw [HBA.out, hp.out.1, hg]; rfl))
            clear hk hg
            go_wp2
            go_ret2
            exact ⟨ret_two HH.out.1.symm HH.out.2.symm, HB1.out⟩
  · have HR := Aside0.mk (ba_bad (k := k) (L := L) (E := E) (sh := sh) (pl := pl) (e := layC k L E) (by unfold baC; rw [if_neg hv]) hv)
    have bq : (layC k L E != 0) = true := by simpa using hv
    have bq2 : (layC k L E == 0) = false := by simpa using hv
    generalize layC k L E = e at HLC HR bq bq2
    clear hv
    obtain ⟨y0, y1, y2⟩ := HX.out
    go_enter Try.func64, Try.ntmps64
    go_wp2_with fail
    refine HLC.out.mono ?_; rintro _ w1 ⟨rfl, hb1⟩
    have HB1 := Aside0.mk (bstep HB.out hb1)
    have HX1 := Aside0.mk (HX.out.below hb1)
    clear hb1 y0 y1 y2
    obtain ⟨y0, y1, y2⟩ := HX1.out
    go_wp2_with fail
    go_ret2
    exact ⟨ret_two HR.out.1.symm HR.out.2.symm, HB1.out⟩
end Go.Proofs.Ytdippdkneeocfaa
