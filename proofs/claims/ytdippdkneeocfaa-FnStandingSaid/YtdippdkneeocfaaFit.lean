/- Books fit on a shelf: the program's and the reference's. -/
import Derived.Test.YtdippdkneeocfaaTotL
import Derived.Test.YtdippdkneeocfaaCsValid
import Derived.StillTailTactics
import Derived.Still
import Derived.Deep.QuietTactic
import Derived.BigQuiet
namespace Go.Proofs.Ytdippdkneeocfaa
open Go.RowKit Go.Proofs.YtdippdkneeocfaaW.PrintWords Go.Proofs.YtdippdkneeocfaaW.PrintMore
set_option linter.unusedVariables false
set_option linter.unusedSimpArgs false
set_option maxRecDepth 100000

def fitT (t : T3) (wd ld h : Int) : Bool := decide (t.x ≤ wd) && (decide (t.y ≤ h) && decide (t.z ≤ ld))
def Cs.h (k : Cs) (s : Nat) : Int := k.hs.getD s 0
def fitL (k : Cs) (s : Nat) (L : List Bk) : Bool := fitT (totL L) k.wd k.ld (k.h s)
def freeL (k : Cs) (s : Nat) (L : List Bk) : Int := if fitL k s L = true then k.wd - (totL L).x else -1
theorem Cs.h_at {k : Cs} {s : Nat} {x : Int} (h : k.hs[s]? = some x) : k.h s = x := by unfold Cs.h; rw [List.getD_eq_getElem?_getD, h]; rfl
set_option maxHeartbeats 2000000 in
theorem fits_c (k : Cs) (A : Option Addr) (c s : Nat) (A1 : Option Addr) (c1 : Nat) (L : List Bk) (hok : k.ok) (hoL : OkL L) (hs : s < k.hs.length) (w : World) (hC : (Kd.int .i16).C w A k.hs.length k.hs) (hL : kBk.C w A1 L.length L) :
    Calls Try.prog 130 #[k.val A c, .int .i64 s, .slice A1 L.length c1] w (Ret w (.bool (fitL k s L))) := by
  have hm := Kd.C_max hC
  have HT := Aside0.mk (totals_c A1 c1 L hoL _ (Kd.C_alloc hL (.cells #[.int .i16 k.wd, .int .i32 k.ld, .slice A k.hs.length c] 51)))
  have HX := Aside0.mk (CsAt.box w k A c 51)
  have HB := Aside0.mk (balloc (Below.refl w.heap.size w) (.cells #[.int .i16 k.wd, .int .i32 k.ld, .slice A k.hs.length c] 51))
  obtain ⟨ad, x, rfl, hbk, hx⟩ := at_int' hC s hs
  have HC := Aside0.mk hx
  obtain ⟨⟨o1, o2⟩, ⟨o3, o4⟩, o5⟩ := hok
  obtain ⟨q1, q2⟩ := o5 x (mem_of hbk.out)
  have HE := Aside0.mk (show fitL k s L = (decide ((totL L).x ≤ k.wd) && (decide ((totL L).y ≤ x) && decide ((totL L).z ≤ k.ld))) by unfold fitL fitT; rw [Cs.h_at hbk.out])
  clear hC hL o5 hx hbk
  generalize totL L = t at HT HE
  have i0 : (0 : Int) ≤ (s : Int) := by omega
  have i1 : (s : Int) < (k.hs.length : Int) := by omega
  simp only [Cs.val, T3.cells] at HT ⊢
  by_cases h1 : t.x ≤ k.wd
  · have d1 : decide (t.x ≤ k.wd) = true := decide_eq_true h1
    by_cases h2 : t.y ≤ x
    · have d2 : decide (t.y ≤ x) = true := decide_eq_true h2
      by_cases h3 : t.z ≤ k.ld
      · have d3 : decide (t.z ≤ k.ld) = true := decide_eq_true h3
        rw [d1, d2, d3] at HE
        go_enter Try.func130, Try.ntmps130
        go_wp2_with fail
        refine HT.out.mono ?_; rintro _ w1 ⟨rfl, hb1⟩
        have HB1 := Aside0.mk (balloc (bstep HB.out hb1) (.cells #[.int .i64 t.x, .int .i64 t.y, .int .i64 t.z] 130))
        obtain ⟨y0, y1, y2⟩ := (HX.out.below hb1).below (balloc (Below.refl _ _) (.cells #[.int .i64 t.x, .int .i64 t.y, .int .i64 t.z] 130))
        have hx1 : (w1.alloc (.cells #[.int .i64 t.x, .int .i64 t.y, .int .i64 t.z] 130)).cell? (ad.add s) = some (.int .i16 x) := pw_cell_below (balloc (bstep HB.out hb1) _) HC.out
        clear hb1
        go_wp2_with fail
        go_quiet (fail)
        go_wp2
        go_ret
        exact ⟨ret_bool HE.out.symm, bdrewN HB1.out _⟩
      · have d3 : decide (t.z ≤ k.ld) = false := decide_eq_false h3
        rw [d1, d2, d3] at HE
        go_enter Try.func130, Try.ntmps130
        go_wp2_with fail
        refine HT.out.mono ?_; rintro _ w1 ⟨rfl, hb1⟩
        have HB1 := Aside0.mk (balloc (bstep HB.out hb1) (.cells #[.int .i64 t.x, .int .i64 t.y, .int .i64 t.z] 130))
        obtain ⟨y0, y1, y2⟩ := (HX.out.below hb1).below (balloc (Below.refl _ _) (.cells #[.int .i64 t.x, .int .i64 t.y, .int .i64 t.z] 130))
        have hx1 : (w1.alloc (.cells #[.int .i64 t.x, .int .i64 t.y, .int .i64 t.z] 130)).cell? (ad.add s) = some (.int .i16 x) := pw_cell_below (balloc (bstep HB.out hb1) _) HC.out
        clear hb1
        go_wp2_with fail
        go_quiet (fail)
        go_wp2
        go_ret
        exact ⟨ret_bool HE.out.symm, bdrewN HB1.out _⟩
    · have d2 : decide (t.y ≤ x) = false := decide_eq_false h2
      rw [d1, d2] at HE
      go_enter Try.func130, Try.ntmps130
      go_wp2_with fail
      refine HT.out.mono ?_; rintro _ w1 ⟨rfl, hb1⟩
      have HB1 := Aside0.mk (balloc (bstep HB.out hb1) (.cells #[.int .i64 t.x, .int .i64 t.y, .int .i64 t.z] 130))
      obtain ⟨y0, y1, y2⟩ := (HX.out.below hb1).below (balloc (Below.refl _ _) (.cells #[.int .i64 t.x, .int .i64 t.y, .int .i64 t.z] 130))
      have hx1 : (w1.alloc (.cells #[.int .i64 t.x, .int .i64 t.y, .int .i64 t.z] 130)).cell? (ad.add s) = some (.int .i16 x) := pw_cell_below (balloc (bstep HB.out hb1) _) HC.out
      clear hb1
      go_wp2_with fail
      go_quiet (fail)
      go_wp2
      go_ret
      exact ⟨ret_bool HE.out.symm, bdrewN HB1.out _⟩
  · have d1 : decide (t.x ≤ k.wd) = false := decide_eq_false h1
    rw [d1] at HE
    go_enter Try.func130, Try.ntmps130
    go_wp2_with fail
    refine HT.out.mono ?_; rintro _ w1 ⟨rfl, hb1⟩
    have HB1 := Aside0.mk (balloc (bstep HB.out hb1) (.cells #[.int .i64 t.x, .int .i64 t.y, .int .i64 t.z] 130))
    obtain ⟨y0, y1, y2⟩ := (HX.out.below hb1).below (balloc (Below.refl _ _) (.cells #[.int .i64 t.x, .int .i64 t.y, .int .i64 t.z] 130))
    have hx1 : (w1.alloc (.cells #[.int .i64 t.x, .int .i64 t.y, .int .i64 t.z] 130)).cell? (ad.add s) = some (.int .i16 x) := pw_cell_below (balloc (bstep HB.out hb1) _) HC.out
    clear hb1
    go_wp2_with fail
    go_quiet (fail)
    go_wp2
    go_ret
    exact ⟨ret_bool HE.out.symm, bdrewN HB1.out _⟩
/-- Few books, each one valid. -/
structure FitOk (L : List Bk) : Prop where
  len : L.length ≤ 60
  bk : ∀ b ∈ L, (1 ≤ b.wd ∧ b.wd ≤ 100) ∧ (50 ≤ b.h ∧ b.h ≤ 400) ∧ 1 ≤ b.wt ∧ b.wt ≤ 9999
theorem FitOk.of {L : List Bk} (h : vBooks L = true) : FitOk L := by
  refine ⟨vBooks_len h, fun b hb => ?_⟩
  unfold vBooks at h
  rw [Bool.and_eq_true, List.all_eq_true] at h
  have := h.2 b hb
  unfold vBook at this
  simp only [Bool.and_eq_true, inR_iff] at this
  exact ⟨this.2.2.2.1, this.2.2.2.2.1, this.2.2.2.2.2⟩
theorem FitOk.sub {L M : List Bk} (h : FitOk L) (hs : M.Sublist L) : FitOk M := ⟨Nat.le_trans hs.length_le h.len, fun b hb => h.bk b (hs.subset hb)⟩
theorem FitOk.tot {L : List Bk} (h : FitOk L) (n : Nat) (hn : n ≤ L.length) : (0 ≤ (totL (L.take n)).x ∧ (totL (L.take n)).x ≤ 100 * n) ∧ 0 ≤ (totL (L.take n)).y ∧ 0 ≤ (totL (L.take n)).z ∧ (totL (L.take n)).z ≤ 9999 * n := by
  induction n with
  | zero => simp [totL]
  | succ n ih =>
    have ih := ih (by omega)
    have hl : n < L.length := by omega
    have hg : L[n]? = some L[n] := List.getElem?_eq_getElem hl
    rw [totL_next hg]
    have hb := h.bk L[n] (List.getElem_mem hl)
    have hlen := h.len
    generalize L[n] = b at hb
    generalize totL (L.take n) = t at ih
    simp only [T3.step, mx, wrap64]
    split <;> omega
theorem FitOk.step {L : List Bk} (h : FitOk L) {n : Nat} {b : Bk} (hb : L[n]? = some b) : totL (L.take (n + 1)) = ⟨(totL (L.take n)).x + b.wd, mx (totL (L.take n)).y b.h, (totL (L.take n)).z + b.wt⟩ := by
  have hl := (List.getElem?_eq_some_iff.1 hb).1
  have h1 := h.tot n (by omega)
  have h2 := h.bk b (mem_of hb)
  have hlen := h.len
  rw [totL_next hb]
  generalize totL (L.take n) = t at h1
  have e1 : wrap64 (t.x + b.wd) = t.x + b.wd := by unfold wrap64; omega
  have e2 : wrap64 (t.z + b.wt) = t.z + b.wt := by unfold wrap64; omega
  simp only [T3.step, e1, e2]
theorem tot_mono (L : List Bk) (n d : Nat) (hn : n + d ≤ L.length) : (totL (L.take n)).y ≤ (totL (L.take (n + d))).y := by
  induction d with
  | zero => exact Int.le_refl _
  | succ d ih =>
    have ih := ih (by omega)
    have hl : n + d < L.length := by omega
    rw [show n + (d + 1) = n + d + 1 by omega, totL_next (List.getElem?_eq_getElem hl)]
    generalize totL (L.take (n + d)) = t at ih
    simp only [T3.step, mx]
    split <;> omega
set_option maxHeartbeats 4000000 in
theorem l02Free_c (k : Cs) (A : Option Addr) (c s : Nat) (p : Addr) (A1 : Option Addr) (c1 : Nat) (L : List Bk) (hok : k.ok) (hfo : FitOk L) (hs : s < k.hs.length) (hh : 0 ≤ k.h s) (w : World) (hp : CsAt w p k A c) (hC : (Kd.int .i16).C w A k.hs.length k.hs) (hL : kBk.C w A1 L.length L) :
    Calls Try.prog 128 #[.pointer (some p), .int .i64 s, .slice A1 L.length c1] w (Ret w (.int .i64 (freeL k s L))) := by
  have hm := Kd.C_max hC
  have hm1 := Kd.C_max hL
  obtain ⟨ad, x, rfl, hbk, hx⟩ := at_int' hC s hs
  have HX := Aside0.mk hx
  have HP := Aside0.mk hp
  have HL := Aside0.mk hL
  have HF := Aside0.mk hfo
  obtain ⟨⟨o1, o2⟩, ⟨o3, o4⟩, o5⟩ := hok
  obtain ⟨q1, q2⟩ := o5 x (mem_of hbk.out)
  have hxe := Cs.h_at hbk.out
  rw [hxe] at hh
  have HE := Aside0.mk (show freeL k s L = if (totL L).x ≤ k.wd ∧ (totL L).y ≤ x ∧ (totL L).z ≤ k.ld then k.wd - (totL L).x else -1 by
    unfold freeL fitL fitT
    rw [hxe]
    simp only [Bool.and_eq_true, decide_eq_true_eq])
  have i0 : (0 : Int) ≤ (s : Int) := by omega
  have i1 : (s : Int) < (k.hs.length : Int) := by omega
  have HN := Aside0.mk (show L.length ≤ 60 from hfo.len)
  obtain ⟨y0, y1, y2⟩ := hp
  clear hC hL hfo o5 hxe hbk hx
  go_enter Try.func128, Try.ntmps128
  go_wp2
  clear y0 y1 y2
  go_loopg [7, 8, 9] L.length (fun gk v7 v8 v9 wr => ∃ n : Nat, ∃ a b : Int, n + gk = L.length ∧ v9 = .int .i64 n ∧ v7 = .int .i64 a ∧ v8 = .int .i64 b ∧ Aside0 (a = k.wd - (totL (L.take n)).x ∧ b = (totL (L.take n)).z ∧ (totL (L.take n)).y ≤ x) ∧ Aside0 (Below w.heap.size w wr))
  case atStart => exact ⟨0, k.wd, 0, by omega, rfl, rfl, rfl, ⟨by simp [totL, hh]⟩, ⟨Below.refl _ _⟩⟩
  case round =>
    obtain ⟨n, a, b, hk, rfl, rfl, rfl, hp, hb⟩ := hrel
    obtain ⟨y0, y1, y2⟩ := HP.out.below hb.out
    have HK := Aside0.mk hk
    by_cases hlt : n < L.length
    · obtain ⟨ad1, bk, rfl, hbk, x0, x1, x2, x3, x4, x5, x6, x7⟩ := at_bk (Kd.C_below HL.out hb.out) n hlt
      have hx1 : wr.cell? (ad.add s) = some (.int .i16 x) := pw_cell_below hb.out HX.out
      have HS := Aside0.mk (HF.out.step hbk.out)
      obtain ⟨⟨t1, t2⟩, t3, t4, t5⟩ := HF.out.tot n (by omega)
      obtain ⟨⟨u1, u2⟩, ⟨u3, u4⟩, u5, u6⟩ := HF.out.bk bk (mem_of hbk.out)
      have hn60 := HN.out
      have a1 : -6000 ≤ a - 100 + 100 + 32768 := by have := hp.out.1; omega
      have a2 : a ≤ 32767 := by have := hp.out.1; omega
      have a3 : -40000 ≤ a := by have := hp.out.1; omega
      have b1 : 0 ≤ b := by have := hp.out.2.1; omega
      have b2 : b ≤ 600000 := by have := hp.out.2.1; omega
      clear hk a1 t1 t2 t3 t4 t5 hn60
      by_cases hbh : x < bk.h
      · have HR := Aside0.mk (show freeL k s L = -1 by
          rw [HE.out, if_neg]
          rintro ⟨_, h2, _⟩
          have h3 := tot_mono L (n + 1) (L.length - (n + 1)) (by omega)
          rw [show n + 1 + (L.length - (n + 1)) = L.length by omega, List.take_length, HS.out] at h3
          simp only [mx] at h3
          split at h3 <;> omega)
        have dd : decide (x < bk.h) = true := decide_eq_true hbh
        go_wp2_with fail
        go_quiet (fail)
        go_wp2
        go_ret
        exact ⟨ret_int HR.out.symm, bdrewN hb.out _⟩
      · have HR := Aside0.mk (show a - bk.wd = k.wd - (totL (L.take (n + 1))).x ∧ b + bk.wt = (totL (L.take (n + 1))).z ∧ (totL (L.take (n + 1))).y ≤ x by
          rw [HS.out]
          have := hp.out
          refine ⟨by simp only []; omega, by simp only []; omega, ?_⟩
          simp only [mx]
          split <;> omega)
        have dd : decide (x < bk.h) = false := decide_eq_false hbh
        go_wp2_with fail
        go_quiet (fail)
        go_wp2
        go_roundg (gk - 1)
        case measure => have := HK.out; omega
        case rel => exact ⟨n + 1, a - bk.wd, b + bk.wt, by have := HK.out; omega, by go_num, by go_num, by go_num, HR, ⟨bdrewN hb.out _⟩⟩
    · have hT := hp.out
      obtain ⟨⟨t1, t2⟩, t3, t4, t5⟩ := HF.out.tot n (by omega)
      rw [List.take_of_length_le (by omega)] at hT t1 t2 t3 t4 t5
      have HT := Aside0.mk hT
      have hn60 := HN.out
      have a1 : -40000 ≤ a := by omega
      have a2 : a ≤ 32767 := by omega
      have b1 : 0 ≤ b := by omega
      have b2 : b ≤ 600000 := by omega
      clear hk hT t1 t2 t3 t4 t5 hn60
      by_cases ha : a < 0
      · have HR := Aside0.mk (show freeL k s L = -1 by rw [HE.out, if_neg]; rintro ⟨h1, _, _⟩; have := HT.out; omega)
        go_wp2
        go_ret
        exact ⟨ret_int HR.out.symm, hb.out⟩
      · by_cases hl : k.ld < b
        · have HR := Aside0.mk (show freeL k s L = -1 by rw [HE.out, if_neg]; rintro ⟨_, _, h3⟩; have := HT.out; omega)
          go_wp2
          go_ret
          exact ⟨ret_int HR.out.symm, hb.out⟩
        · have HR := Aside0.mk (show freeL k s L = a by rw [HE.out, if_pos (by have := HT.out; omega)]; have := HT.out; omega)
          go_wp2
          go_ret
          exact ⟨ret_int HR.out.symm, hb.out⟩
theorem free_iff {k : Cs} {s : Nat} {L : List Bk} : decide (0 ≤ freeL k s L) = fitL k s L := by
  unfold freeL
  cases h : fitL k s L
  · rw [if_neg (by decide)]; rfl
  · rw [if_pos rfl]
    unfold fitL fitT at h
    simp only [Bool.and_eq_true, decide_eq_true_eq] at h
    exact decide_eq_true (by omega)
end Go.Proofs.Ytdippdkneeocfaa
