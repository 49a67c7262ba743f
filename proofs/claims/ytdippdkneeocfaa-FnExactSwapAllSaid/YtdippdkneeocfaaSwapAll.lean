/- SwapAll: the program's. -/
import Derived.Test.YtdippdkneeocfaaMv
import Derived.Test.YtdippdkneeocfaaClone
import Derived.Test.YtdippdkneeocfaaRowIs
import Derived.Test.YtdippdkneeocfaaValid
import Derived.StillTailTactics
import Derived.Still
import Derived.Deep.QuietTactic
import Derived.BigQuiet
import Derived.BigRegion
import Derived.RegionTactic
import Derived.ChangeAlike
namespace Go.Proofs.Ytdippdkneeocfaa
open Go.RowKit Go.Proofs.YtdippdkneeocfaaW.PrintWords Go.Proofs.YtdippdkneeocfaaW.PrintMore
set_option linter.unusedVariables false
set_option linter.unusedSimpArgs false
set_option maxRecDepth 100000


theorem indexFuncMv_c (A : Option Addr) (c : Nat) (L : List Mv) (f : FuncId) (cap : Array Value) (p : Mv → Bool) (w : World)
    (hL : kMv.C w A L.length L) (hfn : Fun Try.prog f)
    (hf : ∀ W, Below w.heap.size w W → ∀ x, x ∈ L → Calls Try.prog f (#[x.val] ++ cap) W (Ret W (.bool (p x)))) :
    Calls Try.prog 186 #[.slice A L.length c, .func (.func f) #[] cap] w (Ret w (.int .i64 (idxF L p))) := by
  have hm := Kd.C_max hL
  have hcf := hfn.run
  have HF := Aside0.mk hf
  have HL := Aside0.mk hL
  clear hf hfn hL
  go_enter Try.func186, Try.ntmps186
  go_wp2
  go_loopg [8] L.length (fun gk v8 wr => ∃ k : Nat, k + gk = L.length ∧ v8 = .int .i64 k ∧ Aside0 (∀ x, x ∈ L.take k → p x = false) ∧ Aside0 (Below w.heap.size w wr))
  case atStart => exact ⟨0, by omega, rfl, ⟨by simp⟩, ⟨Below.refl _ _⟩⟩
  case round =>
    obtain ⟨k, hk, rfl, hp, hb⟩ := hrel
    have HK := Aside0.mk hk
    by_cases hlt : k < L.length
    · obtain ⟨ad, b, rfl, hbk, hx0, hx1⟩ := at_mv (Kd.C_below HL.out hb.out) k (by omega)
      clear hk
      go_wp2_with (refine (HF.out _ hb.out _ (mem_of hbk.out)).mono ?_; rintro _ w1 ⟨rfl, hb1⟩)
      · rename_i hpb
        go_ret
        exact ⟨ret_int (idxF_hit hp.out hbk.out hpb).symm, bstep hb.out hb1⟩
      · rename_i hpb
        go_roundg (gk - 1)
        case measure => have := HK.out; omega
        case rel => exact ⟨k + 1, by have := HK.out; omega, by go_num, ⟨fun y hy => by rw [take_snoc hbk.out] at hy; rcases List.mem_append.1 hy with hy | hy; exact hp.out y hy; rw [List.mem_singleton.1 hy]; exact hpb⟩, ⟨bstep hb.out hb1⟩⟩
    · clear hk
      go_wp2
      go_ret
      refine ⟨ret_int (idxF_none ?_).symm, hb.out⟩
      have hp1 := hp.out
      rw [List.take_of_length_le (by omega)] at hp1
      exact hp1


theorem containsFuncMv_c (A : Option Addr) (c : Nat) (L : List Mv) (f : FuncId) (cap : Array Value) (p : Mv → Bool) (w : World)
    (hL : kMv.C w A L.length L) (hfn : Fun Try.prog f)
    (hf : ∀ W, Below w.heap.size w W → ∀ x, x ∈ L → Calls Try.prog f (#[x.val] ++ cap) W (Ret W (.bool (p x)))) :
    Calls Try.prog 163 #[.slice A L.length c, .func (.func f) #[] cap] w (Ret w (.bool (L.any p))) := by
  have HI := Aside0.mk (indexFuncMv_c A c L f cap p w hL hfn hf)
  clear hL hfn hf
  go_enter Try.func163, Try.ntmps163
  go_wp2_with (go_at_call 186; refine HI.out.mono ?_; rintro _ w1 ⟨rfl, hb1⟩)
  all_goals (go_ret; exact ⟨ret_bool (idxF_any L p), hb1⟩)


theorem allCloMv_c (x : Mv) (f : FuncId) (cap : Array Value) (g : Nat) (w : World) (r : Bool) (hc : w.cell? ⟨g, 0, none⟩ = some (.func (.func f) #[] cap)) (hg : g < w.heap.size)
    (hf : ∀ W, Below w.heap.size w W → Calls Try.prog f (#[x.val] ++ cap) W (Ret W (.bool r))) (hfn : Fun Try.prog f) :
    Calls Try.prog 164 #[x.val, .pointer (some ⟨g, 0, none⟩)] w (Ret w (.bool (!r))) := by
  have hcf := hfn.run
  have HF := Aside0.mk hf
  have hca : ∀ o, (w.alloc o).cell? ⟨g, 0, none⟩ = some (.func (.func f) #[] cap) := fun o => (World.cell?_alloc_lt w o _ hg).trans hc
  clear hf hfn
  simp only [Mv.val]
  go_enter Try.func164, Try.ntmps164
  go_wp2_with (refine (HF.out _ (by first | exact Below.refl _ _ | exact balloc (Below.refl _ _) _)).mono ?_; rintro _ w1 ⟨rfl, hb1⟩)
  all_goals (go_ret; exact ⟨rfl, by first | exact hb1 | exact bstep (balloc (Below.refl _ _) _) hb1⟩)
theorem areAllMv_c (A : Option Addr) (c : Nat) (L : List Mv) (f : FuncId) (cap : Array Value) (p : Mv → Bool) (w : World)
    (hL : kMv.C w A L.length L) (hfn : Fun Try.prog f)
    (hf : ∀ W, Below w.heap.size w W → ∀ x, x ∈ L → Calls Try.prog f (#[x.val] ++ cap) W (Ret W (.bool (p x)))) :
    Calls Try.prog 108 #[.slice A L.length c, .func (.func f) #[] cap] w (Ret w (.bool (L.all p))) := by
  have hcl : ∀ W, Below (w.alloc (.cells #[.func (.func f) #[] cap] 107)).heap.size (w.alloc (.cells #[.func (.func f) #[] cap] 107)) W → ∀ x, x ∈ L →
      Calls Try.prog 164 (#[x.val] ++ #[.pointer (some ⟨w.heap.size, 0, none⟩)]) W (Ret W (.bool (!(p x)))) := fun W hW x hx => by
    have h0 : W.cell? ⟨w.heap.size, 0, none⟩ = some (.func (.func f) #[] cap) := by
      rw [hW.cell (by simp)]; exact (blk_cell (blk_new w _) 0).trans rfl
    have hbW : Below w.heap.size w W := bstep (balloc (Below.refl _ _) _) hW
    exact allCloMv_c x f cap w.heap.size W (p x) h0 (by have := hW.size; simp at this; omega) (fun W' hW' => hf W' (bstep hbW hW') x hx) hfn
  have HI := Aside0.mk (containsFuncMv_c A c L 164 #[.pointer (some ⟨w.heap.size, 0, none⟩)] (fun x => !(p x)) (w.alloc (.cells #[.func (.func f) #[] cap] 107)) (Kd.C_alloc hL _) ⟨_, Try.func164, rfl, rfl⟩ hcl)
  clear hL hfn hf hcl
  go_enter Try.func108, Try.ntmps108
  go_wp2_with (go_at_call 163; refine HI.out.mono ?_; rintro _ w1 ⟨rfl, hb1⟩)
  all_goals (go_ret; exact ⟨ret_bool (by rw [List.all_eq_not_any_not]), bstep (balloc (Below.refl _ _) _) hb1⟩)

def mvOk (n : Int) (x : Mv) : Bool := inR x.a 0 (n - 1) && inR x.b 0 (n - 1)
def swaps (L : List Bk) (M : List Mv) : List Bk := M.foldl (fun C m => Srt.swp C m.a.toNat m.b.toNat) L
def saE (L : List Bk) (M : List Mv) : Int := if vBooks L = true then (if 200 < M.length then 3 else if M.all (mvOk L.length) = true then 0 else 2) else 1
def saV (L : List Bk) (M : List Mv) : List Bk := if saE L M = 0 then swaps L M else []
theorem mvClo_c (x : Mv) (h : Int) (g : Nat) (w : World) (hc : w.cell? ⟨g, 0, none⟩ = some (.int .i16 h)) (hg : g < w.heap.size) :
    Calls Try.prog 109 (#[x.val] ++ #[.pointer (some ⟨g, 0, none⟩)]) w (Ret w (.bool (inR x.a 0 h && inR x.b 0 h))) := by
  show Calls Try.prog 109 #[x.val, .pointer (some ⟨g, 0, none⟩)] w (Ret w (.bool (inR x.a 0 h && inR x.b 0 h)))
  have HW := Aside0.mk (fun n W => within16_c n 0 h W)
  have HB := Aside0.mk (balloc (Below.refl w.heap.size w) (.cells #[.int .i16 x.a, .int .i16 x.b] 103))
  have hca : (w.alloc (.cells #[.int .i16 x.a, .int .i16 x.b] 103)).cell? ⟨g, 0, none⟩ = some (.int .i16 h) := (World.cell?_alloc_lt w _ _ hg).trans hc
  have p0 : (w.alloc (.cells #[.int .i16 x.a, .int .i16 x.b] 103)).cell? ⟨w.heap.size, 0, none⟩ = some (.int .i16 x.a) := (blk_cell (blk_new w _) 0).trans rfl
  have p1 : (w.alloc (.cells #[.int .i16 x.a, .int .i16 x.b] 103)).cell? ⟨w.heap.size, 1, none⟩ = some (.int .i16 x.b) := (blk_cell (blk_new w _) 1).trans rfl
  clear hc
  simp only [Mv.val]
  cases h1 : inR x.a 0 h
  · have HA := Aside0.mk (HW.out x.a)
    rw [h1] at HA
    clear h1
    go_enter Try.func109, Try.ntmps109
    go_wp2_with fail
    refine (HA.out _).mono ?_; rintro _ w1 ⟨rfl, rfl⟩
    go_wp2_with fail
    go_ret
    exact ⟨rfl, HB.out⟩
  · have HA := Aside0.mk (HW.out x.a)
    rw [h1] at HA
    clear h1
    go_enter Try.func109, Try.ntmps109
    go_wp2_with fail
    refine (HA.out _).mono ?_; rintro _ w1 ⟨rfl, rfl⟩
    go_wp2_with fail
    refine (HW.out _ _).mono ?_; rintro _ w1 ⟨rfl, rfl⟩
    go_wp2_with fail
    go_ret
    exact ⟨rfl, HB.out⟩
theorem movesOk_c (A1 : Option Addr) (c1 : Nat) (M : List Mv) (h : Int) (w : World) (hM : kMv.C w A1 M.length M) :
    Calls Try.prog 108 #[.slice A1 M.length c1, .func (.func 109) #[] #[.pointer (some ⟨w.heap.size, 0, none⟩)]] (w.alloc (.cells #[.int .i16 h] 22)) (Ret (w.alloc (.cells #[.int .i16 h] 22)) (.bool (M.all (fun x => inR x.a 0 h && inR x.b 0 h)))) :=
  areAllMv_c A1 c1 M 109 #[.pointer (some ⟨w.heap.size, 0, none⟩)] (fun x => inR x.a 0 h && inR x.b 0 h) _ (Kd.C_alloc hM _) ⟨_, Try.func109, rfl, rfl⟩ (fun W hW x hx => by
    refine mvClo_c x h w.heap.size W ?_ ?_
    · rw [hW.cell (by simp)]; exact (blk_cell (blk_new w _) 0).trans rfl
    · have := hW.size; simp at this; omega)
theorem grown_below {B g : Nat} {w W W' : World} (h : Below B w W) (k : W.grownBy W' (some g)) (hg : B ≤ g) (hB : B ≤ W.heap.size := by exact h.size) : Below B w W' := pw_below_grown h _ hB k (fun j hj => by injection hj with hj; omega)
/-- The exchange, with a box made ahead of it (the walk moves the box outwards). -/
theorem exch_box {W W' : World} {B : Nat} {ok : Nat → Prop} {w : World} {g n cap : Nat} {C : List Bk} {i j : Nat} {x y : Bk} {o : Obj} (h : RowIs B ok w g n cap C W) (hi : i < n) (hj : j < n) (hx : C[i]? = some x) (hy : C[j]? = some y) (e : (((W.setCells g (i * 8) (Bk.cells y)).setCells g (j * 8) (Bk.cells x)).alloc o).drew = W') :
    RowIs B ok w g n cap (Srt.swp C i j) W' := by
  subst e
  rw [Srt.swp_at hx hy]
  have h1 := h.1
  have h2 := h.2
  obtain ⟨h3, h4⟩ := row_put8 y h1 hi
  obtain ⟨h5, h6⟩ := row_put8 x h3 hj
  have h7 := (h2.trans h4).trans h6
  exact RowIs.drew (RowIs.below (show RowIs B ok w g n cap ((C.set i y).set j x) _ from And.intro h5 h7) (balloc (Below.refl _ _) o))
theorem row_pair {ok : Nat → Prop} {g n cap : Nat} {w wa W' : World} {C : List Bk} (h : RowIs w.heap.size ok wa g n cap C W') (hb : Below w.heap.size w wa) (hg : w.heap.size ≤ g) : Aside0 (kBk.R 27 W' w.heap.size ok (.slice (some ⟨g, 0, none⟩) n cap) C) ∧ Aside0 (Below w.heap.size w W') := ⟨⟨h.1⟩, ⟨grown_below hb h.2 hg hb.size⟩⟩
theorem swaps_next {L : List Bk} {M : List Mv} {k : Nat} {m : Mv} (h : M[k]? = some m) : swaps L (M.take (k + 1)) = Srt.swp (swaps L (M.take k)) m.a.toNat m.b.toNat := by
  unfold swaps
  rw [take_snoc h, List.foldl_append]
  rfl
theorem swaps_len (L : List Bk) (M : List Mv) : (swaps L M).length = L.length := by
  unfold swaps
  induction M generalizing L with
  | nil => rfl
  | cons m M ih => rw [List.foldl_cons, ih, Srt.swp_len]
theorem mv_in {n : Nat} {x : Mv} (h : mvOk n x = true) : ∃ i j : Nat, x = ⟨i, j⟩ ∧ i < n ∧ j < n := by
  obtain ⟨a, b⟩ := x
  unfold mvOk inR at h
  simp only [Bool.and_eq_true, decide_eq_true_eq] at h
  exact ⟨a.toNat, b.toNat, by congr 1 <;> omega, by omega, by omega⟩
set_option maxHeartbeats 8000000 in
theorem SwapAll_c (A0 A1 : Option Addr) (c0 c1 : Nat) (L : List Bk) (M : List Mv) (w : World) (hL : kBk.C w A0 L.length L) (hM : kMv.C w A1 M.length M) :
    Calls Try.prog 37 #[.slice A0 L.length c0, .slice A1 M.length c1] w (RetQ w (TupB w (saV L M) (saE L M))) := by
  have hm0 := Kd.C_max hL
  have hm1 := Kd.C_max hM
  have HB0 := Aside0.mk (Below.refl w.heap.size w)
  have HL := Aside0.mk hL
  have HM := Aside0.mk hM
  have HV := Aside0.mk (ValidBooks_c A0 c0 L w hL)
  clear hL hM
  cases h1 : vBooks L
  · rw [h1] at HV
    have HE := Aside0.mk (show saV L M = [] ∧ saE L M = 1 by unfold saV saE; rw [h1]; exact ⟨rfl, rfl⟩)
    clear h1
    go_enter Try.func37, Try.ntmps37
    go_wp2_with fail
    refine HV.out.mono ?_; rintro _ w1 ⟨rfl, hb1⟩
    have HB1 := Aside0.mk hb1
    clear hb1
    go_wp2_with fail
    go_ret2
    rw [HE.out.1, HE.out.2]
    exact ⟨_, rfl, HB1.out, _, rfl, Kd.R_nil _ _ _ _ _⟩
  · rw [h1] at HV
    have hl := vBooks_len h1
    by_cases h2 : 200 < M.length
    · have HE := Aside0.mk (show saV L M = [] ∧ saE L M = 3 by unfold saV saE; rw [if_pos h1, if_pos h2]; exact ⟨rfl, rfl⟩)
      clear h1
      go_enter Try.func37, Try.ntmps37
      go_wp2_with fail
      refine HV.out.mono ?_; rintro _ w1 ⟨rfl, hb1⟩
      have HB1 := Aside0.mk hb1
      clear hb1
      go_wp2_with fail
      go_ret2
      rw [HE.out.1, HE.out.2]
      exact ⟨_, rfl, HB1.out, _, rfl, Kd.R_nil _ _ _ _ _⟩
    · have e1 : IntKind.i64.wrap ((L.length : Int) - 1) = (L.length : Int) - 1 := by simp only [IntKind.wrap, IntKind.bits, IntKind.signed, Bool.true_and, decide_eq_true_eq, ge_iff_le]; split <;> omega
      have e2 : IntKind.i16.wrap ((L.length : Int) - 1) = (L.length : Int) - 1 := by simp only [IntKind.wrap, IntKind.bits, IntKind.signed, Bool.true_and, decide_eq_true_eq, ge_iff_le]; split <;> omega
      have HA := Aside0.mk (fun W h => movesOk_c A1 c1 M ((L.length : Int) - 1) W h)
      have hall : M.all (fun x => inR x.a 0 ((L.length : Int) - 1) && inR x.b 0 ((L.length : Int) - 1)) = M.all (mvOk L.length) := rfl
      rw [hall] at HA
      clear hall
      cases h3 : M.all (mvOk L.length)
      · rw [h3] at HA
        have hE : saE L M = 2 := by unfold saE; rw [if_pos h1, if_neg h2, h3]; rfl
        have HE := Aside0.mk (show saV L M = [] ∧ saE L M = 2 from ⟨by unfold saV; rw [hE]; rfl, hE⟩)
        clear hE
        clear h1 h3
        go_enter Try.func37, Try.ntmps37
        go_wp2_with fail
        refine HV.out.mono ?_; rintro _ w1 ⟨rfl, hb1⟩
        have HB1 := Aside0.mk hb1
        have HB2 := Aside0.mk (balloc hb1 (.cells #[.int .i16 ((L.length : Int) - 1)] 22))
        clear hb1
        go_wp2_with fail
        refine (HA.out w1 (Kd.C_below HM.out HB1.out)).mono ?_; rintro _ w2 ⟨rfl, hb2⟩
        have HB3 := Aside0.mk (bstep HB2.out hb2)
        clear hb2
        go_wp2_with fail
        go_ret2
        rw [HE.out.1, HE.out.2]
        exact ⟨_, rfl, HB3.out, _, rfl, Kd.R_nil _ _ _ _ _⟩
      · rw [h3] at HA
        have hE : saE L M = 0 := by unfold saE; rw [if_pos h1, if_neg h2, h3]; rfl
        have HE := Aside0.mk (show saV L M = swaps L M ∧ saE L M = 0 from ⟨by unfold saV; rw [hE]; rfl, hE⟩)
        clear hE
        have HALL := Aside0.mk (List.all_eq_true.1 h3)
        clear h1 h3
        go_enter Try.func37, Try.ntmps37
        go_wp2_with fail
        refine HV.out.mono ?_; rintro _ w1 ⟨rfl, hb1⟩
        have HB1 := Aside0.mk hb1
        have HB2 := Aside0.mk (balloc hb1 (.cells #[.int .i16 ((L.length : Int) - 1)] 22))
        clear hb1
        go_wp2_with fail
        refine (HA.out w1 (Kd.C_below HM.out HB1.out)).mono ?_; rintro _ w2 ⟨rfl, hb2⟩
        have HB3 := Aside0.mk (bstep HB2.out hb2)
        clear hb2
        go_wp2_with fail
        refine (clone_c A0 c0 L w2 (Kd.C_below HL.out HB3.out) (by omega)).mono ?_; rintro _ w3 ⟨v, rfl, hb3, hv⟩
        have HB4 := Aside0.mk (bstep HB3.out hb3)
        have HV4 := Aside0.mk (show kBk.R 27 w3 w.heap.size (fun _ => True) v L from Kd.R_lower hv HB3.out.size)
        clear hb3 hv
        go_wp2_with fail
        go_loopg [30] M.length (fun gk v30 wr => ∃ k : Nat, k + gk = M.length ∧ v30 = .int .i64 k ∧ Aside0 (kBk.R 27 wr w.heap.size (fun _ => True) v (swaps L (M.take k))) ∧ Aside0 (Below w.heap.size w wr))
        case atStart => exact ⟨0, by omega, rfl, HV4, HB4⟩
        case round =>
          clear HV4 HB4 HB3 HB2 HB1 HB0
          obtain ⟨k, hk, rfl, HR, HB⟩ := hrel
          have HK := Aside0.mk hk
          by_cases hlt : k < M.length
          · obtain ⟨ad, m, rfl, hm, p0, p1⟩ := at_mv (Kd.C_below HM.out HB.out) k hlt
            obtain ⟨i, j, rfl, hi, hj⟩ := mv_in (HALL.out m (mem_of hm.out))
            have HSN := Aside0.mk (show swaps L (M.take (k + 1)) = Srt.swp (swaps L (M.take k)) i j by rw [swaps_next hm.out]; simp)
            obtain ⟨C, hC⟩ : ∃ C, swaps L (M.take k) = C := ⟨_, rfl⟩
            have hCl : C.length = L.length := by rw [← hC, swaps_len]
            rw [hC] at HSN HR
            clear hC
            obtain ⟨g, cap, e1, hgB, hgl, _⟩ := Kd.R_form HR.out (by omega)
            rw [hCl] at e1
            subst e1
            have HRW := Aside0.mk (RowIs.below (show RowIs w.heap.size (fun _ => True) wr g L.length cap C wr from ⟨HR.out, World.grownBy.refl _ _⟩) (balloc (Below.refl _ _) (.cells #[.int .i16 (i : Int), .int .i16 (j : Int)] 103)))
            obtain ⟨x, hx, r0, r1, r2, r3, r4, r5, r6, r7, s0, s1, s2, s3, s4, s5, s6, s7⟩ := row_at HRW.out.1 hi
            obtain ⟨y, hy, t0, t1, t2, t3, t4, t5, t6, t7, v0, v1, v2, v3, v4, v5, v6, v7⟩ := row_at HRW.out.1 hj
            have hRw : RowIs w.heap.size (fun _ => True) wr g L.length cap C wr := ⟨HR.out, World.grownBy.refl _ _⟩
            obtain ⟨R0, R1, R2, R3, R4, R5, R6, R7, S0, S1, S2, S3, S4, S5, S6, S7⟩ := row_of hRw.1 hi hx.out
            obtain ⟨T0, T1, T2, T3, T4, T5, T6, T7, V0, V1, V2, V3, V4, V5, V6, V7⟩ := row_of hRw.1 hj hy.out
            clear hRw
            have b0 : (wr.alloc (.cells #[.int .i16 (i : Int), .int .i16 (j : Int)] 103)).cell? ⟨wr.heap.size, 0, none⟩ = some (.int .i16 (i : Int)) := (blk_cell (blk_new wr _) 0).trans rfl
            have b1 : (wr.alloc (.cells #[.int .i16 (i : Int), .int .i16 (j : Int)] 103)).cell? ⟨wr.heap.size, 1, none⟩ = some (.int .i16 (j : Int)) := (blk_cell (blk_new wr _) 1).trans rfl
            have i0 : (0 : Int) ≤ (i : Int) := by omega
            have i1 : (i : Int) < (L.length : Int) := by omega
            have j0 : (0 : Int) ≤ (j : Int) := by omega
            have j1 : (j : Int) < (L.length : Int) := by omega
            have HBW := Aside0.mk (balloc HB.out (.cells #[.int .i16 (i : Int), .int .i16 (j : Int)] 103))
            clear hk hCl
            by_cases hij : i = j
            · subst hij
              obtain rfl : x = y := by have := hx.out; rw [hy.out] at this; exact (Option.some.inj this).symm
              clear t0 t1 t2 t3 t4 t5 t6 t7 v0 v1 v2 v3 v4 v5 v6 v7 T0 T1 T2 T3 T4 T5 T6 T7 V0 V1 V2 V3 V4 V5 V6 V7
              go_wp2_with fail
              go_region
              go_wp2
              go_roundg (gk - 1)
              case measure => have := HK.out; omega
              have HX := HSN.out
              clear HSN p0 p1 r0 r1 r2 r3 r4 r5 r6 r7 s0 s1 s2 s3 s4 s5 s6 s7 b0 b1
              refine ⟨k + 1, by have := HK.out; omega, by go_num, ?_⟩
              rw [HX]
              exact row_pair (exch_box (o := .cells #[.int .i16 (i : Int), .int .i16 (i : Int)] 103) (show RowIs w.heap.size (fun _ => True) wr g L.length cap C wr from ⟨HR.out, World.grownBy.refl _ _⟩) hi (by omega) hx.out hy.out (by simp only [Bk.cells, World.setCells, Nat.add_assoc, Nat.reduceAdd])) HB.out hgB
            · have hji : ¬ j = i := fun h => hij h.symm
              go_wp2_with fail
              go_region
              go_wp2
              go_roundg (gk - 1)
              case measure => have := HK.out; omega
              have HX := HSN.out
              clear HSN p0 p1 r0 r1 r2 r3 r4 r5 r6 r7 s0 s1 s2 s3 s4 s5 s6 s7 b0 b1
              refine ⟨k + 1, by have := HK.out; omega, by go_num, ?_⟩
              rw [HX]
              exact row_pair (exch_box (o := .cells #[.int .i16 (i : Int), .int .i16 (j : Int)] 103) (show RowIs w.heap.size (fun _ => True) wr g L.length cap C wr from ⟨HR.out, World.grownBy.refl _ _⟩) hi (by omega) hx.out hy.out (by simp only [Bk.cells, World.setCells, Nat.add_assoc, Nat.reduceAdd])) HB.out hgB
          · have hk1 : M.take k = M := List.take_of_length_le (by omega)
            clear hk
            go_wp2_with fail
            go_ret2
            rw [HE.out.1, HE.out.2]
            exact ⟨_, rfl, HB.out, _, rfl, by have := HR.out; rw [hk1] at this; exact this⟩
end Go.Proofs.Ytdippdkneeocfaa
