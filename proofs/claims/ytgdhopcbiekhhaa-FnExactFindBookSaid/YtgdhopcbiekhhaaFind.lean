/- FindBook: the program's and the reference's. -/
import Derived.Test.YtgdhopcbiekhhaaPlace
import Derived.Test.YtgdhopcbiekhhaaCmpB
import Derived.Test.YtgdhopcbiekhhaaCnt
import Derived.StillTailTactics
import Derived.Still
import Derived.Deep.QuietTactic
import Derived.BigQuiet
namespace Go.Proofs.Ytgdhopcbiekhhaa
open Go.RowKit Go.Proofs.YtgdhopcbiekhhaaW.PrintWords Go.Proofs.YtgdhopcbiekhhaaW.PrintMore
set_option linter.unusedVariables false
set_option linter.unusedSimpArgs false
set_option maxRecDepth 100000

def markS (b : Bk) : ByteArray := strOfNums [b.m0, b.m1, b.m2]
def fbP (class_ : Int) (mark : ByteArray) (vol : Int) (b : Bk) : Bool := decide (b.c = class_) && (((markS b).toList == mark.toList) && decide (b.v = vol))
theorem mark_conv {W : World} {g o : Nat} {b : Bk} (h : BkAt W ⟨g, o, none⟩ b) (c : Nat) : (convert 104 9 (.slice (some ⟨g, o + 1, none⟩) 3 c)).run Try.prog W = .ok (.string (markS b)) W :=
  Kd.C_string Try.underlying104 Try.underlying5 Try.underlying9 (h.mark_C)
theorem mark_conv0 {W : World} {g : Nat} {b : Bk} (h : BkAt W ⟨g, 0, none⟩ b) (c : Nat) : (convert 104 9 (.slice (some ⟨g, 1, none⟩) 3 c)).run Try.prog W = .ok (.string (markS b)) W := mark_conv h c
set_option maxHeartbeats 4000000 in
theorem findClo_c (cl : Int) (s : ByteArray) (vo : Int) (x : Bk) (h0 : 0 ≤ x.c) (h9 : x.c ≤ 999) (v0 : I16 x.v) (g : Nat) (w : World) (hg : g + 2 < w.heap.size) (h1 : w.cell? ⟨g, 0, none⟩ = some (.int .i64 cl)) (h2 : w.cell? ⟨g + 1, 0, none⟩ = some (.string s)) (h3 : w.cell? ⟨g + 2, 0, none⟩ = some (.int .i64 vo)) :
    Calls Try.prog 122 #[x.val, .pointer (some ⟨g, 0, none⟩), .pointer (some ⟨g + 1, 0, none⟩), .pointer (some ⟨g + 2, 0, none⟩)] w (Ret w (.bool (fbP cl s vo x))) := by
  have HBX := Aside0.mk (BkAt.box w x 34)
  have HB := Aside0.mk (balloc (Below.refl w.heap.size w) (.cells #[.int .i16 x.c, .int .u8 x.m0, .int .u8 x.m1, .int .u8 x.m2, .int .i16 x.v, .int .i16 x.wd, .int .i16 x.h, .int .i16 x.wt] 34))
  have e1 := (World.cell?_alloc_lt w (.cells #[.int .i16 x.c, .int .u8 x.m0, .int .u8 x.m1, .int .u8 x.m2, .int .i16 x.v, .int .i16 x.wd, .int .i16 x.h, .int .i16 x.wt] 34) ⟨g, 0, none⟩ (by show g < _; omega)).trans h1
  have e2 := (World.cell?_alloc_lt w (.cells #[.int .i16 x.c, .int .u8 x.m0, .int .u8 x.m1, .int .u8 x.m2, .int .i16 x.v, .int .i16 x.wd, .int .i16 x.h, .int .i16 x.wt] 34) ⟨g + 1, 0, none⟩ (by show g + 1 < _; omega)).trans h2
  have e3 := (World.cell?_alloc_lt w (.cells #[.int .i16 x.c, .int .u8 x.m0, .int .u8 x.m1, .int .u8 x.m2, .int .i16 x.v, .int .i16 x.wd, .int .i16 x.h, .int .i16 x.wt] 34) ⟨g + 2, 0, none⟩ (by show g + 2 < _; omega)).trans h3
  simp only [Bk.val]
  clear h1 h2 h3
  obtain ⟨v1, v2⟩ := v0
  have hw1 : IntKind.i64.wrap x.c = x.c := by simp only [IntKind.wrap, IntKind.bits, IntKind.signed, Bool.true_and, decide_eq_true_eq, ge_iff_le]; split <;> omega
  have hw2 : IntKind.i64.wrap x.v = x.v := by simp only [IntKind.wrap, IntKind.bits, IntKind.signed, Bool.true_and, decide_eq_true_eq, ge_iff_le]; split <;> omega
  by_cases q1 : x.c = cl
  · have HQ1 := Aside0.mk q1
    have b1 : (x.c == cl) = true := by simpa using q1
    clear q1
    cases q2 : ((markS x).toList == s.toList)
    · have HR := Aside0.mk (show fbP cl s vo x = false by unfold fbP; rw [q2]; simp)
      go_enter Try.func122, Try.ntmps122
      go_wp2
      generalize hW : World.alloc w _ = W1 at HBX HB e1 e2 e3 ⊢
      clear hW
      have hcv2 := fun (n c : Nat) => mark_conv0 (HBX.out.below (bdrewN (Below.refl _ _) n)) c
      obtain ⟨p0, p1, p2, p3, p4, p5, p6, p7⟩ := HBX.out
      go_quiet (fail)
      clear hcv2
      go_wp2
      go_ret
      exact ⟨ret_bool HR.out.symm, bdrewN HB.out _⟩
    · by_cases q3 : x.v = vo
      · have HR := Aside0.mk (show fbP cl s vo x = true by unfold fbP; rw [q2, decide_eq_true q3, decide_eq_true HQ1.out]; rfl)
        have b3 : (x.v == vo) = true := by simpa using q3
        clear q3
        go_enter Try.func122, Try.ntmps122
        go_wp2
        generalize hW : World.alloc w _ = W1 at HBX HB e1 e2 e3 ⊢
        clear hW
        have hcv2 := fun (n c : Nat) => mark_conv0 (HBX.out.below (bdrewN (Below.refl _ _) n)) c
        obtain ⟨p0, p1, p2, p3, p4, p5, p6, p7⟩ := HBX.out
        go_quiet (fail)
        clear hcv2
        go_wp2
        go_ret
        exact ⟨ret_bool HR.out.symm, bdrewN HB.out _⟩
      · have HR := Aside0.mk (show fbP cl s vo x = false by unfold fbP; rw [decide_eq_false q3]; simp)
        have b3 : (x.v == vo) = false := by simpa using q3
        clear q3
        go_enter Try.func122, Try.ntmps122
        go_wp2
        generalize hW : World.alloc w _ = W1 at HBX HB e1 e2 e3 ⊢
        clear hW
        have hcv2 := fun (n c : Nat) => mark_conv0 (HBX.out.below (bdrewN (Below.refl _ _) n)) c
        obtain ⟨p0, p1, p2, p3, p4, p5, p6, p7⟩ := HBX.out
        go_quiet (fail)
        clear hcv2
        go_wp2
        go_ret
        exact ⟨ret_bool HR.out.symm, bdrewN HB.out _⟩
  · have HR := Aside0.mk (show fbP cl s vo x = false by unfold fbP; rw [decide_eq_false q1]; rfl)
    have b1 : (x.c == cl) = false := by simpa using q1
    clear q1
    go_enter Try.func122, Try.ntmps122
    go_wp2
    generalize hW : World.alloc w _ = W1 at HBX HB e1 e2 e3 ⊢
    clear hW
    obtain ⟨p0, p1, p2, p3, p4, p5, p6, p7⟩ := HBX.out
    go_quiet (fail)
    go_wp2
    go_ret
    exact ⟨ret_bool HR.out.symm, bdrewN HB.out _⟩
theorem vBooks_vol {L : List Bk} (h : vBooks L = true) : ∀ b, b ∈ L → I16 b.v := by
  intro b hb
  unfold vBooks at h
  simp only [Bool.and_eq_true, decide_eq_true_eq, List.all_eq_true] at h
  have := h.2 b hb
  unfold vBook at this
  simp only [Bool.and_eq_true] at this
  have := inR_iff.1 this.2.2.1
  unfold I16
  omega
def fbV (L : List Bk) (p : Bk → Bool) : Int := if sCode L = 0 then (if idxF L p < 0 then 0 else idxF L p) else 0
def fbE (L : List Bk) (p : Bk → Bool) : Int := if sCode L = 0 then (if idxF L p < 0 then 6 else 0) else sCode L
theorem fb_bad {L : List Bk} {p : Bk → Bool} (h : ¬ sCode L = 0) : fbV L p = 0 ∧ fbE L p = sCode L := by unfold fbV fbE; rw [if_neg h, if_neg h]; exact ⟨rfl, rfl⟩
theorem fb_ok {L : List Bk} {p : Bk → Bool} (h : sCode L = 0) : fbV L p = (if idxF L p < 0 then 0 else idxF L p) ∧ fbE L p = (if idxF L p < 0 then 6 else 0) := by unfold fbV fbE; rw [if_pos h, if_pos h]; exact ⟨rfl, rfl⟩
set_option maxHeartbeats 4000000 in
theorem FindBook_c (A : Option Addr) (c : Nat) (L : List Bk) (cl : Int) (s : ByteArray) (vo : Int) (w : World) (hL : kBk.C w A L.length L) :
    Calls Try.prog 68 #[.slice A L.length c, .int .i64 cl, .string s, .int .i64 vo] w (Ret w (.tuple #[.int .i64 (fbV L (fbP cl s vo)), .int .i64 (fbE L (fbP cl s vo))])) := by
  have hm := Kd.C_max hL
  have HL := Aside0.mk hL
  have HB := Aside0.mk (balloc (balloc (balloc (Below.refl w.heap.size w) (.cells #[.int .i64 cl] 2)) (.cells #[.string s] 9)) (.cells #[.int .i64 vo] 2))
  have h1 := blk_alloc (blk_alloc (blk_new w (.cells #[.int .i64 cl] 2)) (.cells #[.string s] 9)) (.cells #[.int .i64 vo] 2)
  have h2 := blk_alloc (blk_new (w.alloc (.cells #[.int .i64 cl] 2)) (.cells #[.string s] 9)) (.cells #[.int .i64 vo] 2)
  have h3 := blk_new ((w.alloc (.cells #[.int .i64 cl] 2)).alloc (.cells #[.string s] 9)) (.cells #[.int .i64 vo] 2)
  have hs0 := sorted1_c A c L _ (Kd.C_below hL HB.out)
  simp only [World.size_alloc] at h2 h3 hs0
  have H1 := Aside0.mk h1
  have H2 := Aside0.mk h2
  have H3 := Aside0.mk (show _ = _ from h3)
  have HS := Aside0.mk hs0
  clear hL h1 h2 h3 hs0
  by_cases hs : sCode L = 0
  · have HCL := Aside0.mk (vBooks_class (sCode_zero.1 hs).1)
    have HVL := Aside0.mk (vBooks_vol (sCode_zero.1 hs).1)
    have HR := Aside0.mk (fb_ok (L := L) (p := fbP cl s vo) hs)
    rw [hs] at HS
    clear hs
    go_enter Try.func68, Try.ntmps68
    go_wp2_with fail
    refine HS.out.mono ?_; rintro _ w1 ⟨rfl, hb1⟩
    have HB1 := Aside0.mk (bstep (balloc HB.out _) hb1)
    have K1 := Aside0.mk (blk_below (blk_alloc H1.out (.cells #[.slice A L.length c] 40)) hb1)
    have K2 := Aside0.mk (blk_below (blk_alloc H2.out (.cells #[.slice A L.length c] 40)) hb1)
    have K3 := Aside0.mk (blk_below (blk_alloc H3.out (.cells #[.slice A L.length c] 40)) hb1)
    clear hb1
    go_wp2_with fail
    refine (indexFuncBk_c A c L 122 #[.pointer (some ⟨w.heap.size, 0, none⟩), .pointer (some ⟨w.heap.size + 1, 0, none⟩), .pointer (some ⟨w.heap.size + 2, 0, none⟩)] (fbP cl s vo) w1 (Kd.C_below HL.out HB1.out) ⟨_, Try.func122, rfl, rfl⟩ (fun W hW x hx => findClo_c cl s vo x (HCL.out x hx).1 (HCL.out x hx).2 (HVL.out x hx) w.heap.size W (blk_lt (blk_below K3.out hW)) ((blk_cell (blk_below K1.out hW) 0).trans rfl) ((blk_cell (blk_below K2.out hW) 0).trans rfl) ((blk_cell (blk_below K3.out hW) 0).trans rfl))).mono ?_; rintro _ w2 ⟨rfl, hb2⟩
    have HB2 := Aside0.mk (bstep HB1.out hb2)
    clear hb2
    generalize idxF L (fbP cl s vo) = o at HR ⊢
    by_cases hf : o < 0
    · rw [if_pos hf, if_pos hf] at HR
      go_wp2_with fail
      go_ret2
      exact ⟨ret_two HR.out.1.symm HR.out.2.symm, HB2.out⟩
    · rw [if_neg hf, if_neg hf] at HR
      go_wp2_with fail
      go_ret2
      exact ⟨ret_two HR.out.1.symm HR.out.2.symm, HB2.out⟩
  · have HR := Aside0.mk (fb_bad (L := L) (p := fbP cl s vo) hs)
    have hq : (sCode L != 0) = true := by simpa using hs
    clear hs
    go_enter Try.func68, Try.ntmps68
    go_wp2_with fail
    refine HS.out.mono ?_; rintro _ w1 ⟨rfl, hb1⟩
    have HB1 := Aside0.mk (bstep (balloc HB.out _) hb1)
    clear hb1
    go_wp2_with fail
    go_ret2
    exact ⟨ret_two HR.out.1.symm HR.out.2.symm, HB1.out⟩
set_option maxHeartbeats 4000000 in
theorem specFindBook_c (A : Option Addr) (c : Nat) (L : List Bk) (cl : Int) (s : ByteArray) (vo : Int) (hok : OkL L) (w : World) (hL : kBk.C w A L.length L) :
    Calls Try.prog 67 #[.slice A L.length c, .int .i64 cl, .string s, .int .i64 vo] w (Ret w (.tuple #[.int .i64 (fbV L (fbP cl s vo)), .int .i64 (fbE L (fbP cl s vo))])) := by
  have hm := Kd.C_max hL
  have HL := Aside0.mk hL
  have HO := Aside0.mk hok
  have HS := Aside0.mk (l01Asked_c A c L hok w hL)
  clear hL hok
  by_cases hs : sCode L = 0
  · have HR := Aside0.mk (fb_ok (L := L) (p := fbP cl s vo) hs)
    rw [hs] at HS
    clear hs
    go_enter Try.func67, Try.ntmps67
    go_wp2_with fail
    refine HS.out.mono ?_; rintro _ w1 ⟨rfl, hb1⟩
    have HB1 := Aside0.mk hb1
    clear hb1 HS
    go_wp2_with fail
    go_loopg [11] L.length (fun gk v wr => ∃ k : Nat, k + gk = L.length ∧ v = .int .i64 k ∧ Aside0 (∀ x, x ∈ L.take k → fbP cl s vo x = false) ∧ Aside0 (Below w.heap.size w wr))
    case atStart => exact ⟨0, by omega, rfl, ⟨by simp⟩, HB1⟩
    case round =>
      obtain ⟨k, hk, rfl, hp, hb⟩ := hrel
      have HK := Aside0.mk hk
      by_cases hlt : k < L.length
      · obtain ⟨ad, b, rfl, hbk, x0, x1, x2, x3, x4, x5, x6, x7⟩ := at_bk (Kd.C_below HL.out hb.out) k hlt
        obtain ⟨b0, b9⟩ := (HO.out b (mem_of hbk.out)).1
        obtain ⟨d0, d9⟩ := (HO.out b (mem_of hbk.out)).2.2.2.2.1
        have hcv := fun (c : Nat) => mark_conv0 (BkAt.box wr b 34) c
        have HBn := Aside0.mk (balloc hb.out (.cells #[.int .i16 b.c, .int .u8 b.m0, .int .u8 b.m1, .int .u8 b.m2, .int .i16 b.v, .int .i16 b.wd, .int .i16 b.h, .int .i16 b.wt] 34))
        have i0 : (0 : Int) ≤ (k : Int) := by omega
        have i1 : (k : Int) < (L.length : Int) := by omega
        clear hk
        by_cases q1 : b.c = cl
        · have HQ1 := Aside0.mk q1
          have e1 : (b.c == cl) = true := by simpa using q1
          clear q1
          cases q2 : ((markS b).toList == s.toList)
          · have HR2 := Aside0.mk (show fbP cl s vo b = false by unfold fbP; rw [q2]; simp)
            go_wp2
            go_roundg (gk - 1)
            case measure => have := HK.out; omega
            case rel => exact ⟨k + 1, by have := HK.out; omega, by go_num, ⟨fun y hy => by rw [take_snoc hbk.out] at hy; rcases List.mem_append.1 hy with hy | hy; exact hp.out y hy; rw [List.mem_singleton.1 hy]; exact HR2.out⟩, HBn⟩
          · by_cases q3 : b.v = vo
            · have HR2 := Aside0.mk (show fbP cl s vo b = true by unfold fbP; rw [q2, decide_eq_true q3, decide_eq_true HQ1.out]; rfl)
              have e3 : (b.v == vo) = true := by simpa using q3
              clear q3
              have HI := Aside0.mk (idxF_hit hp.out hbk.out HR2.out)
              go_wp2
              go_ret2
              exact ⟨ret_two (by rw [HR.out.1, HI.out, if_neg (by omega)]) (by rw [HR.out.2, HI.out, if_neg (by omega)]), HBn.out⟩
            · have HR2 := Aside0.mk (show fbP cl s vo b = false by unfold fbP; rw [decide_eq_false q3]; simp)
              have e3 : (b.v == vo) = false := by simpa using q3
              clear q3
              go_wp2
              go_roundg (gk - 1)
              case measure => have := HK.out; omega
              case rel => exact ⟨k + 1, by have := HK.out; omega, by go_num, ⟨fun y hy => by rw [take_snoc hbk.out] at hy; rcases List.mem_append.1 hy with hy | hy; exact hp.out y hy; rw [List.mem_singleton.1 hy]; exact HR2.out⟩, HBn⟩
        · have HR2 := Aside0.mk (show fbP cl s vo b = false by unfold fbP; rw [decide_eq_false q1]; rfl)
          have e1 : (b.c == cl) = false := by simpa using q1
          clear q1
          go_wp2
          go_roundg (gk - 1)
          case measure => have := HK.out; omega
          case rel => exact ⟨k + 1, by have := HK.out; omega, by go_num, ⟨fun y hy => by rw [take_snoc hbk.out] at hy; rcases List.mem_append.1 hy with hy | hy; exact hp.out y hy; rw [List.mem_singleton.1 hy]; exact HR2.out⟩, HBn⟩
      · have HI := Aside0.mk (idxF_none (L := L) (p := fbP cl s vo) (by have hp1 := hp.out; rwa [List.take_of_length_le (by omega)] at hp1))
        clear hk
        go_wp2
        go_ret2
        exact ⟨ret_two (by rw [HR.out.1, HI.out, if_pos (by decide)]) (by rw [HR.out.2, HI.out, if_pos (by decide)]), hb.out⟩
  · have HR := Aside0.mk (fb_bad (L := L) (p := fbP cl s vo) hs)
    have hq : (sCode L != 0) = true := by simpa using hs
    clear hs
    go_enter Try.func67, Try.ntmps67
    go_wp2_with fail
    refine HS.out.mono ?_; rintro _ w1 ⟨rfl, hb1⟩
    go_wp2_with fail
    go_ret2
    exact ⟨ret_two HR.out.1.symm HR.out.2.symm, hb1⟩
end Go.Proofs.Ytgdhopcbiekhhaa
