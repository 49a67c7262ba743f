/- Texts of this proof that belong together: Sh, Cost, Free, Fill, Srt, MarkB. No condition. -/
import Derived.Test.YtgibcacciedobaaGreatDoorF3
import Derived.StillTailTactics
import Derived.Still
import Derived.Deep.QuietTactic
import Derived.BigQuiet
import Derived.Deep.RegionHeld3
section
/- The books of each shelf; what is free on it, what it costs: the program's. -/
namespace Go.Proofs.YtgibcacciedobaaGreatDoor
open Go.RowKit Go.Proofs.YtgibcacciedobaaGreatDoorW.PrintWords Go.Proofs.YtgibcacciedobaaGreatDoorW.PrintMore
set_option linter.unusedVariables false
set_option linter.unusedSimpArgs false
set_option maxRecDepth 100000

/-- A list of books that is read in an elder world. -/
def kSh (w0 : World) : Kd (List Bk) := Kd.fixed (Kd.slice 30 kBk) w0
theorem info_sl : (Tryz.prog.info? 24).map (fun i => (i.zero, i.size, i.bytes)) = some (some (.slice none 0 0), 1, 24) := by kernel_rfl
section
variable {ops : Array Oper} {rest : List Oper} {o : Oper} {a : Act} {Q : Exit → Act → World → Prop}
theorem sh_append {w0 w W : World} (hgd : o.guard = none) (s x : Operand) (ho : o.op = .call { callee := .builtin .append, args := #[s, x], argTypes := #[143, 143] }) (v : Value) (xs : List (List Bk)) (A' : Option Addr) (c' : Nat) (p : List Bk)
    (hs : a.eval s = v) (hx : a.eval x = .slice (some ⟨W.heap.size, 0, none⟩) 1 1) (HO : (kSh w0).R 24 W w.heap.size (fun _ => True) v xs) (HB : Below w.heap.size w W) (hl : xs.length ≤ 1000) (hp : p.length ≤ c') (hC : kBk.C w0 A' p.length p)
    (h : ∀ v1 w1, (kSh w0).R 24 w1 w.heap.size (fun _ => True) v1 (xs ++ [p]) → Below w.heap.size w w1 → wpList Tryz.prog ops Q rest (a.put o.dst v1) w1) :
    wpList Tryz.prog ops Q (o :: rest) a (W.alloc (.cells #[.slice A' p.length c'] 24)) :=
  Kd.R_append (kSh w0) (w0 := w) w.heap.size hgd s x 143 24 (.slice none 0 0) 24 ho Tryz.underlying143 info_sl rfl Nat.one_pos (by decide) v xs p [.slice A' p.length c'] (fun _ => True) (fun _ => False) hs hx ⟨A', c', rfl, hp, hC⟩ (fun _ h => h.elim) (fun _ _ => trivial) HO HB HB.size (by omega)
    (fun v1 w1 h1 h2 _ _ => h v1 w1 h1 h2)
end
theorem at_sh {w0 w : World} {A : Option Addr} {X : List (List Bk)} {n : Nat} (h : (kSh w0).C w A n X) (i : Nat) (hi : i < n) :
    ∃ ad p A' c', A = some ad ∧ Aside0 (X[i]? = some p) ∧ w.cell? (ad.add i) = some (.slice A' p.length c') ∧ p.length ≤ c' ∧ Aside0 (kBk.C w0 A' p.length p) := by
  have hl : i < X.length := by have := Kd.C_len h; omega
  obtain ⟨ad, c, e, hc, hK, hcc⟩ := Kd.C_get h X[i] i (by omega) (by omega)
  rw [Int.toNat_natCast] at hK hcc
  have hx : X.getD i X[i] = X[i] := by simp [List.getD_eq_getElem?_getD, List.getElem?_eq_getElem hl]
  rw [hx] at hK
  obtain ⟨A', c', rfl, h1, h2⟩ := hK
  have := hcc 0 _ rfl
  refine ⟨ad, X[i], A', c', e, ⟨List.getElem?_eq_getElem hl⟩, ?_, h1, ⟨h2⟩⟩
  simpa [kSh, Kd.fixed, Kd.slice] using this
/-- The books of a shelf; of the first n shelves. -/
def shB (L : List Bk) (E : List Int) (s : Nat) : List Bk := subL L (bef E s) (E.getD s 0)
def shL (L : List Bk) (E : List Int) (n : Nat) : List (List Bk) := (List.range n).map (shB L E)
theorem shL_succ (L : List Bk) (E : List Int) (n : Nat) : shL L E (n + 1) = shL L E n ++ [shB L E n] := by unfold shL; rw [List.range_succ, List.map_append]; rfl
theorem shL_len (L : List Bk) (E : List Int) (n : Nat) : (shL L E n).length = n := by unfold shL; rw [List.length_map, List.length_range]
theorem shL_at {L : List Bk} {E : List Int} {n i : Nat} {p : List Bk} (h : (shL L E n)[i]? = some p) : p = shB L E i := by
  unfold shL at h
  rw [List.getElem?_map] at h
  cases e : (List.range n)[i]? with
  | none => rw [e] at h; cases h
  | some j =>
    rw [e] at h
    obtain ⟨hl, hj⟩ := List.getElem?_eq_some_iff.1 e
    rw [List.getElem_range] at hj
    subst hj
    exact (Option.some.inj h).symm
def NewSh (w : World) (X : List (List Bk)) (v : Value) (w' : World) : Prop := (kSh w).R 24 w' w.heap.size (fun _ => True) v X
theorem NewSh.open {w w' : World} {X : List (List Bk)} {v : Value} (h : NewSh w X v w') : ∃ A c, v = .slice A X.length c ∧ X.length ≤ c ∧ Aside0 ((kSh w).C w' A X.length X) := by
  obtain ⟨A, c, h1, h2, h3⟩ := Kd.R_reads h
  exact ⟨A, c, h1, h2, ⟨h3⟩⟩
set_option maxHeartbeats 2000000 in
theorem onShelves_c (k : Cs) (A1 : Option Addr) (c1 : Nat) (L : List Bk) (A2 : Option Addr) (c2 : Nat) (E : List Int) (hP : LayP k L E) (hc1 : L.length ≤ c1) (w : World) (hL : kBk.C w A1 L.length L) (hE : (Kd.int .i64).C w A2 E.length E) :
    Calls Tryz.prog 131 #[.slice A1 L.length c1, .slice A2 E.length c2] w (RetQ w (NewSh w (shL L E E.length))) := by
  have hm1 := Kd.C_max hL
  have hm2 := Kd.C_max hE
  have HL := Aside0.mk hL
  have HE := Aside0.mk hE
  have HP := Aside0.mk hP
  have hn12 : E.length ≤ 12 := by have := (vCase_bd hP.case).n.2; have := hP.n; omega
  clear hL hE hP
  go_enter Tryz.func131, Tryz.ntmps131
  go_wp2_with fail
  go_loopg [5, 10] E.length (fun gk v5 v10 wr => ∃ s : Nat, s + gk = E.length ∧ v10 = .int .i64 s ∧ Aside0 ((kSh w).R 24 wr w.heap.size (fun _ => True) v5 (shL L E s)) ∧ Aside0 (Below w.heap.size w wr))
  case atStart => exact ⟨0, by omega, rfl, ⟨Kd.R_nil _ _ _ _ _⟩, ⟨Below.refl _ _⟩⟩
  case round =>
    obtain ⟨s, hk, rfl, HR, hb⟩ := hrel
    have HK := Aside0.mk hk
    by_cases hlt : s < E.length
    · obtain ⟨ad, e, rfl, hbe, hxe⟩ := at_int' (Kd.C_below HE.out hb.out) s hlt
      have hse := (HP.out.s s hlt).1
      have ha0 := (HP.out.nn s (by omega)).1
      have HF := Aside0.mk (fun W h => before_c (some ad) c2 E s (by omega) W h)
      have HS := Aside0.mk (shL_succ L E s)
      have hlen := shL_len L E s
      rw [getD_of hbe.out] at hse
      have HSB := Aside0.mk (show shB L E s = subL L (bef E s) e by unfold shB; rw [getD_of hbe.out])
      rw [HSB.out] at HS
      obtain ⟨A', c', hcut, hc', hCC⟩ := cut_bk A1 c1 L (bef E s) e ha0 hse.1 hse.2 hc1
      have HCC := Aside0.mk (hCC _ HL.out)
      generalize bef E s = a at HF HS hcut hc' HCC hse ha0
      generalize subL L a e = M at HS hcut hc' HCC
      have i0 : (0 : Int) ≤ (s : Int) := by omega
      have i1 : (s : Int) < (E.length : Int) := by omega
      clear hk hCC HSB
      go_wp2_with fail
      refine (HF.out _ (Kd.C_below HE.out hb.out)).mono ?_; rintro _ w3 ⟨rfl, rfl⟩
      go_wp2_with (at_builtin; refine sh_append (w0 := w) (w := w) rfl (.tmp 15) (.tmp 22) rfl _ (shL L E s) A' c' M rfl rfl HR.out hb.out (by omega) hc' HCC.out ?_; intro v1 w9 hR1 hB1; have HR9 := Aside0.mk hR1; have HB9 := Aside0.mk hB1; clear hR1 hB1)
      go_roundg (gk - 1)
      case measure => have := HK.out; omega
      case rel => exact ⟨s + 1, by have := HK.out; omega, by go_num, ⟨by rw [HS.out]; exact HR9.out⟩, HB9⟩
    · have hs : s = E.length := by omega
      rw [hs] at HR
      clear hk hs
      go_wp2
      go_ret
      exact ⟨_, rfl, hb.out, HR.out⟩
/-- What is free; what it costs. -/
def frL (k : Cs) (M : List Bk) : Int := k.wd - (totL M).x
def sqL (k : Cs) (M : List Bk) : Int := if M.length = 0 then 0 else frL k M * frL k M
def usL (M : List Bk) : Int := if M.length = 0 then 0 else 1
theorem frL_bd {k : Cs} {M : List Bk} {s : Nat} (hk : CsBd k) (hM : FitOk M) (hf : fitL k s M = true) : 0 ≤ frL k M ∧ frL k M ≤ 2000 := by
  have h1 := (hM.tot M.length (Nat.le_refl _)).1
  rw [List.take_length] at h1
  have h2 := hk.wd
  unfold fitL fitT at hf
  simp only [Bool.and_eq_true, decide_eq_true_eq] at hf
  unfold frL
  omega
theorem sq_bd {a : Int} (h0 : 0 ≤ a) (h1 : a ≤ 2000) : 0 ≤ a * a ∧ a * a ≤ 4000000 := ⟨Int.mul_nonneg h0 h0, Int.mul_le_mul h1 h1 h0 (by omega)⟩
set_option maxHeartbeats 2000000 in
theorem free_c (k : Cs) (A : Option Addr) (c : Nat) (A1 : Option Addr) (c1 : Nat) (M : List Bk) (hok : k.ok) (hM : FitOk M) (hoM : OkL M) (w : World) (hL : kBk.C w A1 M.length M) :
    Calls Tryz.prog 132 #[k.val A c, .slice A1 M.length c1] w (Ret w (.int .i64 (frL k M))) := by
  have HL := Aside0.mk hL
  have HT := Aside0.mk (fun W h => totals_c A1 c1 M hoM W h)
  have HB := Aside0.mk (balloc (Below.refl w.heap.size w) (.cells #[.int .i16 k.wd, .int .i32 k.ld, .slice A k.hs.length c] 74))
  have HX := Aside0.mk (CsAt.box w k A c 74)
  have HR := Aside0.mk (show frL k M = k.wd - (totL M).x from rfl)
  obtain ⟨⟨o1, o2⟩, _, _⟩ := hok
  have htb := (hM.tot M.length (Nat.le_refl _)).1
  have hml := hM.len
  rw [List.take_length] at htb
  obtain ⟨t1, t2⟩ := htb
  generalize totL M = t at HT HR t1 t2
  have hfst := arr3_fst t.x t.y t.z
  have t3 : t.x ≤ 6000 := by omega
  simp only [T3.cells] at HT
  obtain ⟨y0, y1, y2⟩ := HX.out
  clear hL t2
  simp only [Cs.val]
  go_enter Tryz.func132, Tryz.ntmps132
  go_wp2_with fail
  generalize World.alloc w _ = W0 at HB HX y0 y1 y2 ⊢
  have yO0 : ∀ p : Over W0, p.W.cell? ⟨w.heap.size, 0, none⟩ = some (.int .i16 k.wd) := Over.cell y0
  refine region_over (by kernel_rfl) (by kernel_rfl) ?_
  repeat (go_big_quiet_step (first | (go_at_call 90; exact Calls.over_of (HT.out _ (Kd.C_below HL.out (HB.out.trans ((Over.h _).mono HB.out.size)))))))
  refine wpQuiet_nil ?_
  intro wq1 hw'
  have hq_wq1 := over_out hw'
  clear hw'
  have HQ := Aside0.mk (HB.out.trans (hq_wq1.mono HB.out.size))
  clear hq_wq1 yO0 y0 y1 y2
  go_wp2
  go_ret
  exact ⟨ret_int HR.out.symm, HQ.out⟩
set_option maxHeartbeats 2000000 in
theorem square_c (k : Cs) (A : Option Addr) (c : Nat) (A1 : Option Addr) (c1 : Nat) (M : List Bk) (s : Nat) (hok : k.ok) (hbd : CsBd k) (hM : FitOk M) (hoM : OkL M) (hfit : fitL k s M = true) (w : World) (hL : kBk.C w A1 M.length M) :
    Calls Tryz.prog 133 #[k.val A c, .slice A1 M.length c1] w (Ret w (.int .i64 (sqL k M))) := by
  have HL := Aside0.mk hL
  have hm := Kd.C_max hL
  have HF := Aside0.mk (fun W h => free_c k A c A1 c1 M hok hM hoM W h)
  have HB := Aside0.mk (balloc (Below.refl w.heap.size w) (.cells #[.int .i16 k.wd, .int .i32 k.ld, .slice A k.hs.length c] 74))
  have HX := Aside0.mk (CsAt.box w k A c 74)
  obtain ⟨f0, f1⟩ := frL_bd hbd hM hfit
  obtain ⟨g0, g1⟩ := sq_bd f0 f1
  clear hL
  simp only [Cs.val] at HF ⊢
  by_cases h0 : M.length = 0
  · have HR := Aside0.mk (show sqL k M = 0 by unfold sqL; rw [if_pos h0])
    have b0 : ((M.length : Int) == 0) = true := by simp [h0]
    have b0' : (M.length == 0) = true := by simp [h0]
    clear h0
    go_enter Tryz.func133, Tryz.ntmps133
    go_wp2_with fail
    go_ret
    exact ⟨ret_int HR.out.symm, HB.out⟩
  · have HR := Aside0.mk (show sqL k M = frL k M * frL k M by unfold sqL; rw [if_neg h0])
    have b0 : ((M.length : Int) == 0) = false := by simpa using h0
    have b0' : (M.length == 0) = false := by simpa using h0
    have hw : IntKind.i64.wrap (frL k M * frL k M) = frL k M * frL k M := by generalize frL k M * frL k M = q at g0 g1; simp only [IntKind.wrap, IntKind.bits, IntKind.signed, Bool.true_and, decide_eq_true_eq, ge_iff_le]; split <;> omega
    obtain ⟨y0, y1, y2⟩ := HX.out
    generalize frL k M = q at HF HR hw f0 f1 g0 g1
    clear h0
    go_enter Tryz.func133, Tryz.ntmps133
    go_wp2_with fail
    generalize World.alloc w _ = W0 at HB HX y0 y1 y2 ⊢
    have yO0 : ∀ p : Over W0, p.W.cell? ⟨w.heap.size, 0, none⟩ = some (.int .i16 k.wd) := Over.cell y0
    have yO1 : ∀ p : Over W0, p.W.cell? ⟨w.heap.size, 1, none⟩ = some (.int .i32 k.ld) := Over.cell y1
    have yO2 : ∀ p : Over W0, p.W.cell? ⟨w.heap.size, 2, none⟩ = some (.slice A k.hs.length c) := Over.cell y2
    refine region_over (by kernel_rfl) (by kernel_rfl) ?_
    repeat (go_big_quiet_step (first | (go_at_call 132; exact Calls.over_of (HF.out _ (Kd.C_below HL.out (HB.out.trans ((Over.h _).mono HB.out.size)))))))
    refine wpQuiet_nil ?_
    intro wq1 hw'
    have hq_wq1 := over_out hw'
    clear hw'
    have HQ := Aside0.mk (HB.out.trans (hq_wq1.mono HB.out.size))
    clear hq_wq1 yO0 yO1 yO2 y0 y1 y2
    go_wp2
    go_ret
    exact ⟨ret_int HR.out.symm, HQ.out⟩
theorem used_c (A1 : Option Addr) (c1 : Nat) (M : List Bk) (w : World) (hm : M.length ≤ 9223372036854775807) :
    Calls Tryz.prog 134 #[.slice A1 M.length c1] w (RetS w (.int .i64 (usL M))) := by
  by_cases h0 : M.length = 0
  · have HR := Aside0.mk (show usL M = 0 by unfold usL; rw [if_pos h0])
    have b0 : (M.length : Int) < 1 := by omega
    go_enter Tryz.func134, Tryz.ntmps134
    go_wp2
    all_goals (go_ret; refine ⟨ret_int ?_, rfl⟩; first | exact HR.out.symm | (rw [HR.out]; omega) | omega)
  · have HR := Aside0.mk (show usL M = 1 by unfold usL; rw [if_neg h0])
    have b0 : ¬ (M.length : Int) < 1 := by omega
    go_enter Tryz.func134, Tryz.ntmps134
    go_wp2
    all_goals (go_ret; refine ⟨ret_int ?_, rfl⟩; first | exact HR.out.symm | (rw [HR.out]; omega) | omega)
end Go.Proofs.YtgibcacciedobaaGreatDoor
end
section
/- What a layout costs, how many shelves it uses: the program's and the reference's. -/
namespace Go.Proofs.YtgibcacciedobaaGreatDoor
open Go.RowKit Go.Proofs.YtgibcacciedobaaGreatDoorW.PrintWords Go.Proofs.YtgibcacciedobaaGreatDoorW.PrintMore
set_option linter.unusedVariables false
set_option linter.unusedSimpArgs false
set_option maxRecDepth 100000

/-- What books on a shelf cost, -1 if they do not fit. -/
def prL (k : Cs) (s : Nat) (M : List Bk) (b : Bool) : Int := if fitL k s M = true then (if b = true then usL M else sqL k M) else -1
theorem freeL_yes {k : Cs} {s : Nat} {M : List Bk} (h : fitL k s M = true) : freeL k s M = frL k M := by unfold freeL frL; rw [if_pos h]
theorem freeL_no {k : Cs} {s : Nat} {M : List Bk} (h : fitL k s M = false) : freeL k s M = -1 := by unfold freeL; rw [h]; rfl
def sumN (f : Nat → Int) : Nat → Int
  | 0 => 0
  | n + 1 => sumN f n + f n
/-- The cost of a shelf. -/
def ssL (k : Cs) (L : List Bk) (E : List Int) (b : Bool) (s : Nat) : Int := if b = true then usL (shB L E s) else sqL k (shB L E s)
theorem ssL_bd {k : Cs} {L : List Bk} {E : List Int} (hP : LayP k L E) (b : Bool) {s : Nat} (hs : s < E.length) : 0 ≤ ssL k L E b s ∧ ssL k L E b s ≤ 4000000 := by
  have h1 := (FitOk.of hP.list).sub (subL_sub L (bef E s) (E.getD s 0))
  have h2 := frL_bd (vCase_bd hP.case) h1 (hP.s s hs).2
  have h3 := sq_bd h2.1 h2.2
  unfold ssL usL sqL shB
  split <;> split <;> omega
theorem sumN_bd {k : Cs} {L : List Bk} {E : List Int} (hP : LayP k L E) (b : Bool) (n : Nat) (hn : n ≤ E.length) : 0 ≤ sumN (ssL k L E b) n ∧ sumN (ssL k L E b) n ≤ 4000000 * n := by
  induction n with
  | zero => exact ⟨Int.le_refl _, by show (0 : Int) ≤ _; omega⟩
  | succ n ih =>
    have h1 := ih (by omega)
    have h2 := ssL_bd hP b (s := n) (by omega)
    rw [sumN]
    omega
def coV (k : Cs) (L : List Bk) (E : List Int) (b : Bool) : Int := if layC k L E = 0 then sumN (ssL k L E b) E.length else 0
theorem co_bad {k : Cs} {L : List Bk} {E : List Int} {b : Bool} (h : layC k L E ≠ 0) : coV k L E b = 0 := by unfold coV; rw [if_neg h]
theorem co_ok {k : Cs} {L : List Bk} {E : List Int} {b : Bool} (h : layC k L E = 0) : coV k L E b = sumN (ssL k L E b) E.length := by unfold coV; rw [if_pos h]
set_option maxHeartbeats 4000000 in
theorem CostOf_c (k : Cs) (A : Option Addr) (c : Nat) (A1 : Option Addr) (c1 : Nat) (L : List Bk) (A2 : Option Addr) (c2 : Nat) (E : List Int) (hok : k.ok) (hoL : OkL L) (hc1 : L.length ≤ c1) (w : World) (hC : (Kd.int .i16).C w A k.hs.length k.hs) (hL : kBk.C w A1 L.length L) (hE : (Kd.int .i64).C w A2 E.length E) :
    Calls Tryz.prog 59 #[k.val A c, .slice A1 L.length c1, .slice A2 E.length c2] w (Ret w (.tuple #[.int .i64 (coV k L E false), .int .i64 (layC k L E)])) := by
  have hm := Kd.C_max hC
  have hm1 := Kd.C_max hL
  have hm2 := Kd.C_max hE
  have HLC := Aside0.mk (show Calls Tryz.prog 129 #[k.val A c, .slice A1 L.length c1, .slice A2 E.length c2] (w.alloc (.cells #[.int .i16 k.wd, .int .i32 k.ld, .slice A k.hs.length c] 74)) (Ret (w.alloc (.cells #[.int .i16 k.wd, .int .i32 k.ld, .slice A k.hs.length c] 74)) (.int .i64 (layC k L E))) from layoutCode_c k A c A1 c1 L A2 c2 E hok hoL hc1 _ (Kd.C_alloc hC _) (Kd.C_alloc hL _) (Kd.C_alloc hE _))
  have HC := Aside0.mk hC
  have HL := Aside0.mk hL
  have HE2 := Aside0.mk hE
  have HB := Aside0.mk (balloc (Below.refl w.heap.size w) (.cells #[.int .i16 k.wd, .int .i32 k.ld, .slice A k.hs.length c] 74))
  have HX := Aside0.mk (CsAt.box w k A c 74)
  clear hC hL hE
  simp only [Cs.val] at HLC ⊢
  by_cases hv : layC k L E = 0
  · have HP := Aside0.mk (layP_of hv)
    have HR := Aside0.mk (co_ok (b := false) hv)
    have HOK := Aside0.mk hok
    have HOL := Aside0.mk hoL
    have hn12 : E.length ≤ 12 := by have := (vCase_bd HP.out.case).n.2; have := HP.out.n; omega
    have HON := Aside0.mk (fun W h1 h2 => onShelves_c k A1 c1 L A2 c2 E HP.out hc1 W h1 h2)
    rw [hv] at HLC ⊢
    clear hv hok hoL
    have hlen := shL_len L E E.length
    obtain ⟨y0, y1, y2⟩ := HX.out
    go_enter Tryz.func59, Tryz.ntmps59
    go_wp2_with fail
    refine HLC.out.mono ?_; rintro _ w1 ⟨rfl, hb1⟩
    have HB1 := Aside0.mk (bstep HB.out hb1)
    have HX1 := Aside0.mk (HX.out.below hb1)
    clear hb1 y0 y1 y2
    obtain ⟨y0, y1, y2⟩ := HX1.out
    go_wp2_with fail
    refine (HON.out _ (Kd.C_below HL.out HB1.out) (Kd.C_below HE2.out HB1.out)).mono ?_; rintro _ w2 ⟨_, rfl, hb2, hv2⟩
    have HB2 := Aside0.mk (bstep HB1.out hb2)
    have HX2 := Aside0.mk (HX1.out.below hb2)
    have HB12 := Aside0.mk hb2
    obtain ⟨XA, xc, rfl, hxc, HXC⟩ := hv2.open
    rw [hlen] at hxc HXC ⊢
    clear hb2 hv2 y0 y1 y2 hlen
    go_wp2_with fail
    go_loopg [9, 23] E.length (fun gk v9 v23 wr => ∃ s : Nat, s + gk = E.length ∧ v23 = .int .i64 s ∧ v9 = .int .i64 (sumN (ssL k L E false) s) ∧ Aside0 (Below w2.heap.size w2 wr))
    case atStart => exact ⟨0, by omega, rfl, rfl, ⟨Below.refl _ _⟩⟩
    case round =>
      obtain ⟨s, hk, rfl, rfl, hb⟩ := hrel
      have HK := Aside0.mk hk
      by_cases hlt : s < E.length
      · obtain ⟨ad, p, A', c', rfl, hbp, hxp, hc', hCC⟩ := at_sh (Kd.C_below HXC.out hb.out) s hlt
        have hpe := shL_at hbp.out
        have hfit := (HP.out.s s hlt).2
        obtain ⟨u0, u1⟩ := sumN_bd HP.out false s (by omega)
        obtain ⟨v0, v1⟩ := ssL_bd HP.out false hlt
        have HSS := Aside0.mk (show sumN (ssL k L E false) (s + 1) = sumN (ssL k L E false) s + sqL k p by rw [hpe]; rfl)
        have hvz : ssL k L E false s = sqL k p := by rw [hpe]; rfl
        rw [hvz] at v0 v1
        have HSQ := Aside0.mk (fun W h => square_c k A c A' c' p s HOK.out (vCase_bd HP.out.case) (by rw [hpe]; exact (FitOk.of HP.out.list).sub (subL_sub L _ _)) (by rw [hpe]; exact fun b hb => HOL.out b ((subL_sub L _ _).subset hb)) (by rw [hpe]; exact hfit) W h)
        simp only [Cs.val] at HSQ
        have HCC := Aside0.mk (Kd.C_below hCC.out HB12.out)
        generalize sqL k p = z at HSQ HSS v0 v1
        generalize sumN (ssL k L E false) s = y at HSS u0 u1
        obtain ⟨y0, y1, y2⟩ := HX2.out.below hb.out
        have i0 : (0 : Int) ≤ (s : Int) := by omega
        have i1 : (s : Int) < (E.length : Int) := by omega
        have y3 : y ≤ 48000000 := by omega
        clear hk hfit u1 hvz hpe hCC
        go_wp2_with fail
        refine (HSQ.out _ (Kd.C_below HCC.out hb.out)).mono ?_; rintro _ w3 ⟨rfl, hb3⟩
        have HQ := Aside0.mk (bstep hb.out hb3)
        clear hb3 y0 y1 y2
        go_wp2
        go_roundg (gk - 1)
        case measure => have := HK.out; omega
        case rel => exact ⟨s + 1, by have := HK.out; omega, by go_num, by rw [HSS.out], HQ⟩
      · have hs : s = E.length := by omega
        have HR2 := Aside0.mk (show coV k L E false = sumN (ssL k L E false) s by rw [HR.out, hs])
        clear hk hs
        go_wp2
        go_ret2
        exact ⟨ret_two HR2.out.symm rfl, HB2.out.trans (hb.out.mono HB2.out.size)⟩
  · have HR := Aside0.mk (co_bad (b := false) hv)
    have bq : (layC k L E != 0) = true := by simpa using hv
    generalize layC k L E = e at HLC bq ⊢
    clear hv
    obtain ⟨y0, y1, y2⟩ := HX.out
    go_enter Tryz.func59, Tryz.ntmps59
    go_wp2_with fail
    refine HLC.out.mono ?_; rintro _ w1 ⟨rfl, hb1⟩
    have HB1 := Aside0.mk (bstep HB.out hb1)
    have HX1 := Aside0.mk (HX.out.below hb1)
    clear hb1 y0 y1 y2
    obtain ⟨y0, y1, y2⟩ := HX1.out
    go_wp2_with fail
    go_ret2
    exact ⟨ret_two HR.out.symm rfl, HB1.out⟩
set_option maxHeartbeats 4000000 in
theorem UsedShelves_c (k : Cs) (A : Option Addr) (c : Nat) (A1 : Option Addr) (c1 : Nat) (L : List Bk) (A2 : Option Addr) (c2 : Nat) (E : List Int) (hok : k.ok) (hoL : OkL L) (hc1 : L.length ≤ c1) (w : World) (hC : (Kd.int .i16).C w A k.hs.length k.hs) (hL : kBk.C w A1 L.length L) (hE : (Kd.int .i64).C w A2 E.length E) :
    Calls Tryz.prog 60 #[k.val A c, .slice A1 L.length c1, .slice A2 E.length c2] w (Ret w (.tuple #[.int .i64 (coV k L E true), .int .i64 (layC k L E)])) := by
  have hm := Kd.C_max hC
  have hm1 := Kd.C_max hL
  have hm2 := Kd.C_max hE
  have HLC := Aside0.mk (show Calls Tryz.prog 129 #[k.val A c, .slice A1 L.length c1, .slice A2 E.length c2] (w.alloc (.cells #[.int .i16 k.wd, .int .i32 k.ld, .slice A k.hs.length c] 74)) (Ret (w.alloc (.cells #[.int .i16 k.wd, .int .i32 k.ld, .slice A k.hs.length c] 74)) (.int .i64 (layC k L E))) from layoutCode_c k A c A1 c1 L A2 c2 E hok hoL hc1 _ (Kd.C_alloc hC _) (Kd.C_alloc hL _) (Kd.C_alloc hE _))
  have HC := Aside0.mk hC
  have HL := Aside0.mk hL
  have HE2 := Aside0.mk hE
  have HB := Aside0.mk (balloc (Below.refl w.heap.size w) (.cells #[.int .i16 k.wd, .int .i32 k.ld, .slice A k.hs.length c] 74))
  have HX := Aside0.mk (CsAt.box w k A c 74)
  clear hC hL hE
  simp only [Cs.val] at HLC ⊢
  by_cases hv : layC k L E = 0
  · have HP := Aside0.mk (layP_of hv)
    have HR := Aside0.mk (co_ok (b := true) hv)
    have hn12 : E.length ≤ 12 := by have := (vCase_bd HP.out.case).n.2; have := HP.out.n; omega
    have HON := Aside0.mk (fun W h1 h2 => onShelves_c k A1 c1 L A2 c2 E HP.out hc1 W h1 h2)
    rw [hv] at HLC ⊢
    clear hv hok hoL
    have hlen := shL_len L E E.length
    obtain ⟨y0, y1, y2⟩ := HX.out
    go_enter Tryz.func60, Tryz.ntmps60
    go_wp2_with fail
    refine HLC.out.mono ?_; rintro _ w1 ⟨rfl, hb1⟩
    have HB1 := Aside0.mk (bstep HB.out hb1)
    have HX1 := Aside0.mk (HX.out.below hb1)
    clear hb1 y0 y1 y2
    obtain ⟨y0, y1, y2⟩ := HX1.out
    go_wp2_with fail
    refine (HON.out _ (Kd.C_below HL.out HB1.out) (Kd.C_below HE2.out HB1.out)).mono ?_; rintro _ w2 ⟨_, rfl, hb2, hv2⟩
    have HB2 := Aside0.mk (bstep HB1.out hb2)
    obtain ⟨XA, xc, rfl, hxc, HXC⟩ := hv2.open
    rw [hlen] at hxc HXC ⊢
    clear hb2 hv2 y0 y1 y2 hlen
    go_wp2_with fail
    go_loopg [9, 23] E.length (fun gk v9 v23 wr => ∃ s : Nat, s + gk = E.length ∧ v23 = .int .i64 s ∧ v9 = .int .i64 (sumN (ssL k L E true) s) ∧ w2 = wr)
    case atStart => exact ⟨0, by omega, rfl, rfl, rfl⟩
    case round =>
      obtain ⟨s, hk, rfl, rfl, rfl⟩ := hrel
      have HK := Aside0.mk hk
      by_cases hlt : s < E.length
      · obtain ⟨ad, p, A', c', rfl, hbp, hxp, hc', hCC⟩ := at_sh HXC.out s hlt
        have hpe := shL_at hbp.out
        obtain ⟨u0, u1⟩ := sumN_bd HP.out true s (by omega)
        obtain ⟨v0, v1⟩ := ssL_bd HP.out true hlt
        have HSS := Aside0.mk (show sumN (ssL k L E true) (s + 1) = sumN (ssL k L E true) s + usL p by rw [hpe]; rfl)
        have hvz : ssL k L E true s = usL p := by rw [hpe]; rfl
        rw [hvz] at v0 v1
        have HSQ := Aside0.mk (fun W => used_c A' c' p W (Kd.C_max hCC.out))
        generalize usL p = z at HSQ HSS v0 v1
        generalize sumN (ssL k L E true) s = y at HSS u0 u1
        have i0 : (0 : Int) ≤ (s : Int) := by omega
        have i1 : (s : Int) < (E.length : Int) := by omega
        have y3 : y ≤ 48000000 := by omega
        clear hk u1 hvz hpe hCC
        go_wp2_with fail
        refine (HSQ.out _).mono ?_; rintro _ w3 ⟨rfl, rfl⟩
        go_wp2
        go_roundg (gk - 1)
        case measure => have := HK.out; omega
        case rel => exact ⟨s + 1, by have := HK.out; omega, by go_num, by rw [HSS.out], rfl⟩
      · have hs : s = E.length := by omega
        have HR2 := Aside0.mk (show coV k L E true = sumN (ssL k L E true) s by rw [HR.out, hs])
        clear hk hs
        go_wp2
        go_ret2
        exact ⟨ret_two HR2.out.symm rfl, HB2.out⟩
  · have HR := Aside0.mk (co_bad (b := true) hv)
    have bq : (layC k L E != 0) = true := by simpa using hv
    generalize layC k L E = e at HLC bq ⊢
    clear hv
    obtain ⟨y0, y1, y2⟩ := HX.out
    go_enter Tryz.func60, Tryz.ntmps60
    go_wp2_with fail
    refine HLC.out.mono ?_; rintro _ w1 ⟨rfl, hb1⟩
    have HB1 := Aside0.mk (bstep HB.out hb1)
    have HX1 := Aside0.mk (HX.out.below hb1)
    clear hb1 y0 y1 y2
    obtain ⟨y0, y1, y2⟩ := HX1.out
    go_wp2_with fail
    go_ret2
    exact ⟨ret_two HR.out.symm rfl, HB1.out⟩
end Go.Proofs.YtgibcacciedobaaGreatDoor
end
section
/- FreeOn: the program's and the reference's. -/
namespace Go.Proofs.YtgibcacciedobaaGreatDoor
open Go.RowKit Go.Proofs.YtgibcacciedobaaGreatDoorW.PrintWords Go.Proofs.YtgibcacciedobaaGreatDoorW.PrintMore
set_option linter.unusedVariables false
set_option linter.unusedSimpArgs false
set_option maxRecDepth 100000

set_option maxHeartbeats 2000000 in
theorem eachSh_c (w0 w : World) (hb0 : Below w0.heap.size w0 w) (A : Option Addr) (c : Nat) (X : List (List Bk)) (hl : X.length ≤ 12) (hX : (kSh w0).C w A X.length X) (f : FuncId) (bd : Array Value) (p : List Bk → Int) (hfn : Fun Tryz.prog f)
    (hf : ∀ W, Below w0.heap.size w0 W → ∀ x, x ∈ X → ∀ A' c', kBk.C W A' x.length x → Calls Tryz.prog f (bd ++ #[.slice A' x.length c']) W (Ret W (.int .i64 (p x)))) :
    Calls Tryz.prog 130 #[.slice A X.length c, .func (.func f) bd #[]] w (RetQ w (NewI w (X.map p))) := by
  have hm := Kd.C_max hX
  have hcf := hfn.run
  have HF := Aside0.mk hf
  have HX := Aside0.mk hX
  have HB0 := Aside0.mk hb0
  clear hf hfn hX hb0
  go_enter Tryz.func130, Tryz.ntmps130
  go_wp2_with fail
  go_loopg [5, 10] X.length (fun gk v5 v10 wr => ∃ s : Nat, s + gk = X.length ∧ v10 = .int .i64 s ∧ Aside0 ((Kd.int .i64).R 2 wr w.heap.size (fun _ => True) v5 ((X.take s).map p)) ∧ Aside0 (Below w.heap.size w wr))
  case atStart => exact ⟨0, by omega, rfl, ⟨Kd.R_nil _ _ _ _ _⟩, ⟨Below.refl _ _⟩⟩
  case round =>
    obtain ⟨s, hk, rfl, HR, hb⟩ := hrel
    have HK := Aside0.mk hk
    by_cases hlt : s < X.length
    · obtain ⟨ad, q, A', c', rfl, hbq, hxq, hc', hCC⟩ := at_sh (Kd.C_below HX.out hb.out) s hlt
      have HBW := Aside0.mk (HB0.out.trans (hb.out.mono HB0.out.size))
      have HC := Aside0.mk (HF.out wr HBW.out q (mem_of hbq.out) A' c' (Kd.C_below hCC.out HBW.out))
      have HT := Aside0.mk (show (X.take (s + 1)).map p = (X.take s).map p ++ [p q] by rw [take_snoc hbq.out, List.map_append]; rfl)
      have i0 : (0 : Int) ≤ (s : Int) := by omega
      have i1 : (s : Int) < (X.length : Int) := by omega
      have hlen : ((X.take s).map p).length ≤ 2097152 := by rw [List.length_map, List.length_take]; omega
      generalize p q = z at HC HT
      clear hk hCC
      go_wp2_with fail
      refine HC.out.mono ?_; rintro _ w3 ⟨rfl, hb3⟩
      have HR3 := Aside0.mk (Kd.R_below HR.out hb3)
      have HB3 := Aside0.mk (bstep hb.out hb3)
      clear hb3
      go_wp2_with (at_builtin; refine i64_append (w := w) rfl (.tmp 14) (.tmp 18) rfl _ ((X.take s).map p) z rfl rfl HR3.out HB3.out hlen ?_; intro v1 w9 hR1 hB1 _; have HR9 := Aside0.mk hR1; have HB9 := Aside0.mk hB1; clear hR1 hB1)
      go_roundg (gk - 1)
      case measure => have := HK.out; omega
      case rel => exact ⟨s + 1, by have := HK.out; omega, by go_num, ⟨by rw [HT.out]; exact HR9.out⟩, HB9⟩
    · have hs : X.take s = X := List.take_of_length_le (by omega)
      rw [hs] at HR
      clear hk hs
      go_wp2
      go_ret
      exact ⟨_, rfl, hb.out, HR.out⟩
/-- What is free on the first n shelves. -/
def frN (k : Cs) (L : List Bk) (E : List Int) (n : Nat) : List Int := (shL L E n).map (frL k)
theorem frN_succ (k : Cs) (L : List Bk) (E : List Int) (n : Nat) : frN k L E (n + 1) = frN k L E n ++ [frL k (shB L E n)] := by unfold frN; rw [shL_succ, List.map_append]; rfl
theorem frN_len (k : Cs) (L : List Bk) (E : List Int) (n : Nat) : (frN k L E n).length = n := by unfold frN; rw [List.length_map, shL_len]
def frV (k : Cs) (L : List Bk) (E : List Int) : List Int := if layC k L E = 0 then frN k L E E.length else []
theorem frV_len (k : Cs) (L : List Bk) (E : List Int) : (frV k L E).length ≤ E.length := by
  unfold frV
  split
  · rw [frN_len]; exact Nat.le_refl _
  · exact Nat.zero_le _
theorem fr_bad {k : Cs} {L : List Bk} {E : List Int} (h : layC k L E ≠ 0) : frV k L E = [] := by unfold frV; rw [if_neg h]
theorem fr_ok {k : Cs} {L : List Bk} {E : List Int} (h : layC k L E = 0) : frV k L E = frN k L E E.length := by unfold frV; rw [if_pos h]
set_option maxHeartbeats 4000000 in
theorem FreeOn_c (k : Cs) (A : Option Addr) (c : Nat) (A1 : Option Addr) (c1 : Nat) (L : List Bk) (A2 : Option Addr) (c2 : Nat) (E : List Int) (hok : k.ok) (hoL : OkL L) (hc1 : L.length ≤ c1) (w : World) (hC : (Kd.int .i16).C w A k.hs.length k.hs) (hL : kBk.C w A1 L.length L) (hE : (Kd.int .i64).C w A2 E.length E) :
    Calls Tryz.prog 58 #[k.val A c, .slice A1 L.length c1, .slice A2 E.length c2] w (RetQ w (TupI w (frV k L E) (layC k L E))) := by
  have hm := Kd.C_max hC
  have hm1 := Kd.C_max hL
  have hm2 := Kd.C_max hE
  have HLC := Aside0.mk (show Calls Tryz.prog 129 #[k.val A c, .slice A1 L.length c1, .slice A2 E.length c2] (w.alloc (.cells #[.int .i16 k.wd, .int .i32 k.ld, .slice A k.hs.length c] 74)) (Ret (w.alloc (.cells #[.int .i16 k.wd, .int .i32 k.ld, .slice A k.hs.length c] 74)) (.int .i64 (layC k L E))) from layoutCode_c k A c A1 c1 L A2 c2 E hok hoL hc1 _ (Kd.C_alloc hC _) (Kd.C_alloc hL _) (Kd.C_alloc hE _))
  have HC := Aside0.mk hC
  have HL := Aside0.mk hL
  have HE2 := Aside0.mk hE
  have HB := Aside0.mk (balloc (Below.refl w.heap.size w) (.cells #[.int .i16 k.wd, .int .i32 k.ld, .slice A k.hs.length c] 74))
  have HX := Aside0.mk (CsAt.box w k A c 74)
  clear hC hL hE
  simp only [Cs.val] at HLC ⊢
  by_cases hv : layC k L E = 0
  · have HP := Aside0.mk (layP_of hv)
    have HR := Aside0.mk (fr_ok hv)
    have HOK := Aside0.mk hok
    have HOL := Aside0.mk hoL
    have hn12 : E.length ≤ 12 := by have := (vCase_bd HP.out.case).n.2; have := HP.out.n; omega
    have HON := Aside0.mk (fun W h1 h2 => onShelves_c k A1 c1 L A2 c2 E HP.out hc1 W h1 h2)
    have HEA := Aside0.mk (fun w0 W (h : Below w0.heap.size w0 W) XA xc (hX : (kSh w0).C W XA (shL L E E.length).length (shL L E E.length)) => eachSh_c w0 W h XA xc (shL L E E.length) (by rw [shL_len]; exact hn12) hX 132 #[k.val A c] (frL k) ⟨_, Tryz.func132, rfl, rfl⟩ (fun W' _ x hx A' c' hC' => free_c k A c A' c' x HOK.out (by
      obtain ⟨i, hi⟩ := List.mem_iff_getElem?.1 hx
      rw [shL_at hi]
      exact (FitOk.of HP.out.list).sub (subL_sub L _ _)) (by
      obtain ⟨i, hi⟩ := List.mem_iff_getElem?.1 hx
      rw [shL_at hi]
      exact fun b hb => HOL.out b ((subL_sub L _ _).subset hb)) W' hC'))
    simp only [Cs.val] at HEA
    rw [hv] at HLC ⊢
    clear hv hok hoL
    obtain ⟨y0, y1, y2⟩ := HX.out
    go_enter Tryz.func58, Tryz.ntmps58
    go_wp2_with fail
    refine HLC.out.mono ?_; rintro _ w1 ⟨rfl, hb1⟩
    have HB1 := Aside0.mk (bstep HB.out hb1)
    have HX1 := Aside0.mk (HX.out.below hb1)
    clear hb1 y0 y1 y2
    obtain ⟨y0, y1, y2⟩ := HX1.out
    go_wp2_with fail
    have HYB := Aside0.mk (show ∀ w', Below w1.heap.size w1 w' → Below w1.heap.size w1 w' ∧ w'.cell? ⟨w.heap.size, 0, none⟩ = some (.int .i16 k.wd) ∧ w'.cell? ⟨w.heap.size, 1, none⟩ = some (.int .i32 k.ld) ∧ w'.cell? ⟨w.heap.size, 2, none⟩ = some (.slice A k.hs.length c) from fun w' h => ⟨h, by obtain ⟨a0, a1, a2⟩ := HX1.out.below h; exact ⟨a0, a1, a2⟩⟩)
    go_region_held3 (fun w' => Below w1.heap.size w1 w' ∧ w'.cell? ⟨w.heap.size, 0, none⟩ = some (.int .i16 k.wd) ∧ w'.cell? ⟨w.heap.size, 1, none⟩ = some (.int .i32 k.ld) ∧ w'.cell? ⟨w.heap.size, 2, none⟩ = some (.slice A k.hs.length c))
      (first | assumption | exact HYB.out _ (bdrew (Below.refl _ _)) | exact HYB.out _ (bstep (And.left (by assumption)) hq2) | exact HYB.out _ (bstep (And.left (by assumption)) hq3))
      (first | (go_at_call 131; refine (HON.out _ (Kd.C_below HL.out (HB1.out.trans ((bdrew (Below.refl _ _)).mono HB1.out.size))) (Kd.C_below HE2.out (HB1.out.trans ((bdrew (Below.refl _ _)).mono HB1.out.size)))).mono ?_; rintro _ w2 ⟨_, rfl, hq2, hv2⟩; obtain ⟨XA, xc, rfl, hxc, HXC⟩ := hv2.open; clear hv2) | (go_at_call 130; refine (HEA.out _ _ hq2 _ _ HXC.out).mono ?_; rintro _ w3 ⟨v3, rfl, hq3, hv3⟩))
    all_goals
      (have HQ := Aside0.mk (HB1.out.trans (Below.mono (show Below w1.heap.size w1 w3 from And.left (by assumption)) HB1.out.size))
       have HV3 := Aside0.mk (show (Kd.int .i64).R 2 w3 w.heap.size (fun _ => True) v3 (frV k L E) by
         rw [HR.out]
         exact Kd.R_lower hv3 (Nat.le_trans HB1.out.size hq2.size))
       clear hq2 hq3 hv3
       go_wp2_with fail
       go_ret2
       exact ⟨_, rfl, HQ.out, _, rfl, HV3.out⟩)
  · have HR := Aside0.mk (fr_bad hv)
    have bq : (layC k L E != 0) = true := by simpa using hv
    generalize layC k L E = e at HLC bq ⊢
    clear hv
    obtain ⟨y0, y1, y2⟩ := HX.out
    go_enter Tryz.func58, Tryz.ntmps58
    go_wp2_with fail
    refine HLC.out.mono ?_; rintro _ w1 ⟨rfl, hb1⟩
    have HB1 := Aside0.mk (bstep HB.out hb1)
    have HX1 := Aside0.mk (HX.out.below hb1)
    clear hb1 y0 y1 y2
    obtain ⟨y0, y1, y2⟩ := HX1.out
    go_wp2_with fail
    go_ret2
    rw [HR.out]
    exact ⟨_, rfl, HB1.out, _, rfl, Kd.R_nil _ _ _ _ _⟩
end Go.Proofs.YtgibcacciedobaaGreatDoor
end
section
/- FillShelves: the program's and the reference's. -/
namespace Go.Proofs.YtgibcacciedobaaGreatDoor
open Go.RowKit Go.Proofs.YtgibcacciedobaaGreatDoorW.PrintWords Go.Proofs.YtgibcacciedobaaGreatDoorW.PrintMore
set_option linter.unusedVariables false
set_option linter.unusedSimpArgs false
set_option maxRecDepth 100000

/-- Where a shelf ends that is filled from a on: g more books may come, t is reached. -/
def flEnd (k : Cs) (s : Nat) (L : List Bk) (a : Nat) : Nat → Nat → Nat
  | 0, t => t
  | g + 1, t => if t < L.length ∧ fitL k s (subL L a ((t : Int) + 1)) = true then flEnd k s L a g (t + 1) else t
theorem flEnd_le (k : Cs) (s : Nat) (L : List Bk) (a : Nat) : ∀ g t, t ≤ flEnd k s L a g t ∧ (t ≤ L.length → flEnd k s L a g t ≤ L.length)
  | 0, t => ⟨Nat.le_refl _, fun h => h⟩
  | g + 1, t => by
    rw [flEnd]
    split
    · rename_i h
      have := flEnd_le k s L a g (t + 1)
      exact ⟨by omega, fun _ => this.2 (by omega)⟩
    · exact ⟨Nat.le_refl _, fun h => h⟩
def flAt (k : Cs) (L : List Bk) : Nat → Nat
  | 0 => 0
  | s + 1 => flEnd k s L (flAt k L s) (L.length - flAt k L s) (flAt k L s)
theorem flAt_le (k : Cs) (L : List Bk) (s : Nat) : flAt k L s ≤ L.length := by
  induction s with
  | zero => exact Nat.zero_le _
  | succ s ih => exact (flEnd_le _ _ _ _ _ _).2 ih
def flEnds (k : Cs) (L : List Bk) (n : Nat) : List Int := (List.range n).map (fun s => (flAt k L (s + 1) : Int))
theorem flEnds_succ (k : Cs) (L : List Bk) (n : Nat) : flEnds k L (n + 1) = flEnds k L n ++ [(flAt k L (n + 1) : Int)] := by unfold flEnds; rw [List.range_succ, List.map_append]; rfl
theorem flEnds_len (k : Cs) (L : List Bk) (n : Nat) : (flEnds k L n).length = n := by unfold flEnds; rw [List.length_map, List.length_range]
theorem flEnd_go {k : Cs} {s : Nat} {L : List Bk} {a g t : Nat} (hg : 0 < g) (ht : t < L.length) (h : fitL k s (subL L a ((t : Int) + 1)) = true) : flEnd k s L a g t = flEnd k s L a (g - 1) (t + 1) := by
  match g, hg with
  | g + 1, _ => rw [flEnd, if_pos ⟨ht, h⟩]; rfl
theorem flEnd_stop {k : Cs} {s : Nat} {L : List Bk} {a g t : Nat} (h : ¬ (t < L.length ∧ fitL k s (subL L a ((t : Int) + 1)) = true)) : flEnd k s L a g t = t := by
  cases g with
  | zero => rfl
  | succ g => rw [flEnd, if_neg h]
def fsE (k : Cs) (L : List Bk) : Int := if eCL k L = 0 then (if flAt k L k.hs.length < L.length then 6 else 0) else eCL k L
def fsV (k : Cs) (L : List Bk) : List Int := if fsE k L = 0 then flEnds k L k.hs.length else []
theorem fs_bad {k : Cs} {L : List Bk} (h : eCL k L = 1) : fsV k L = [] ∧ fsE k L = 1 := by
  have h1 : fsE k L = 1 := by unfold fsE; rw [h]; rfl
  exact ⟨by unfold fsV; rw [h1]; rfl, h1⟩
theorem fs_over {k : Cs} {L : List Bk} (h : eCL k L = 0) (h2 : flAt k L k.hs.length < L.length) : fsV k L = [] ∧ fsE k L = 6 := by
  have h1 : fsE k L = 6 := by unfold fsE; rw [if_pos h, if_pos h2]
  exact ⟨by unfold fsV; rw [h1]; rfl, h1⟩
theorem fs_ok {k : Cs} {L : List Bk} (h : eCL k L = 0) (h2 : ¬ flAt k L k.hs.length < L.length) : fsV k L = flEnds k L k.hs.length ∧ fsE k L = 0 := by
  have h1 : fsE k L = 0 := by unfold fsE; rw [if_pos h, if_neg h2]
  exact ⟨by unfold fsV; rw [if_pos h1], h1⟩
theorem fsV_len (k : Cs) (L : List Bk) : (fsV k L).length ≤ k.hs.length := by
  unfold fsV
  split
  · rw [flEnds_len]; exact Nat.le_refl _
  · exact Nat.zero_le _
set_option maxHeartbeats 4000000 in
theorem FillShelves_c (k : Cs) (A : Option Addr) (c : Nat) (A1 : Option Addr) (c1 : Nat) (L : List Bk) (hok : k.ok) (hoL : OkL L) (hc1 : L.length ≤ c1) (w : World) (hC : (Kd.int .i16).C w A k.hs.length k.hs) (hL : kBk.C w A1 L.length L) :
    Calls Tryz.prog 50 #[k.val A c, .slice A1 L.length c1] w (RetQ w (TupI w (fsV k L) (fsE k L))) := by
  have hm := Kd.C_max hC
  have hm1 := Kd.C_max hL
  have HC := Aside0.mk hC
  have HL := Aside0.mk hL
  have HVC := Aside0.mk (fun W h => ValidCase_c k A c W h)
  have HVB := Aside0.mk (fun W h => ValidBooks_c A1 c1 L W h)
  have HB := Aside0.mk (balloc (Below.refl w.heap.size w) (.cells #[.int .i16 k.wd, .int .i32 k.ld, .slice A k.hs.length c] 74))
  have HX := Aside0.mk (CsAt.box w k A c 74)
  clear hC hL
  simp only [Cs.val] at HVC ⊢
  cases v1 : vCase k
  · rw [v1] at HVC
    have HE := Aside0.mk (fs_bad (eCL_1 (L := L) v1))
    clear v1
    obtain ⟨y0, y1, y2⟩ := HX.out
    go_enter Tryz.func50, Tryz.ntmps50
    go_wp2_with fail
    refine (HVC.out _ (Kd.C_alloc HC.out _)).mono ?_; rintro _ w1 ⟨rfl, hb1⟩
    have HB1 := Aside0.mk (bstep HB.out hb1)
    have HX1 := Aside0.mk (HX.out.below hb1)
    clear hb1 y0 y1 y2
    obtain ⟨y0, y1, y2⟩ := HX1.out
    go_wp2_with fail
    go_ret2
    rw [HE.out.1, HE.out.2]
    exact ⟨_, rfl, HB1.out, _, rfl, Kd.R_nil _ _ _ _ _⟩
  · rw [v1] at HVC
    cases v2 : vBooks L
    · rw [v2] at HVB
      have HE := Aside0.mk (fs_bad (eCL_2 (k := k) v2))
      clear v1 v2
      obtain ⟨y0, y1, y2⟩ := HX.out
      go_enter Tryz.func50, Tryz.ntmps50
      go_wp2_with fail
      refine (HVC.out _ (Kd.C_alloc HC.out _)).mono ?_; rintro _ w1 ⟨rfl, hb1⟩
      have HB1 := Aside0.mk (bstep HB.out hb1)
      have HX1 := Aside0.mk (HX.out.below hb1)
      clear hb1 y0 y1 y2
      obtain ⟨y0, y1, y2⟩ := HX1.out
      go_wp2_with fail
      refine (HVB.out _ (Kd.C_below HL.out HB1.out)).mono ?_; rintro _ w2 ⟨rfl, hb2⟩
      have HB2 := Aside0.mk (bstep HB1.out hb2)
      have HX2 := Aside0.mk (HX1.out.below hb2)
      clear hb2 y0 y1 y2
      obtain ⟨y0, y1, y2⟩ := HX2.out
      go_wp2_with fail
      go_ret2
      rw [HE.out.1, HE.out.2]
      exact ⟨_, rfl, HB2.out, _, rfl, Kd.R_nil _ _ _ _ _⟩
    · rw [v2] at HVB
      have HV0 := Aside0.mk (eCL_0 v1 v2)
      have HFO := Aside0.mk (FitOk.of v2)
      have HVK := Aside0.mk (vCase_bd v1)
      clear v1 v2
      have HOK := Aside0.mk hok
      have HOL := Aside0.mk hoL
      clear hok hoL
      have hl60 := HFO.out.len
      have hn12 := HVK.out.n.2
      obtain ⟨y0, y1, y2⟩ := HX.out
      go_enter Tryz.func50, Tryz.ntmps50
      go_wp2_with fail
      refine (HVC.out _ (Kd.C_alloc HC.out _)).mono ?_; rintro _ w1 ⟨rfl, hb1⟩
      have HB1 := Aside0.mk (bstep HB.out hb1)
      have HX1 := Aside0.mk (HX.out.below hb1)
      clear hb1 y0 y1 y2
      obtain ⟨y0, y1, y2⟩ := HX1.out
      go_wp2_with fail
      refine (HVB.out _ (Kd.C_below HL.out HB1.out)).mono ?_; rintro _ w2 ⟨rfl, hb2⟩
      have HB2 := Aside0.mk (bstep HB1.out hb2)
      have HX2 := Aside0.mk (HX1.out.below hb2)
      clear hb2 y0 y1 y2
      obtain ⟨y0, y1, y2⟩ := HX2.out
      go_wp2_with fail
      clear y0 y1 y2
      go_loopg [6, 7, 21] k.hs.length (fun gk v6 v7 v21 wr => ∃ s : Nat, s + gk = k.hs.length ∧ v21 = .int .i64 s ∧ v7 = .int .i64 (flAt k L s : Nat) ∧ Aside0 ((Kd.int .i64).R 2 wr w2.heap.size (fun _ => True) v6 (flEnds k L s)) ∧ Aside0 (Below w2.heap.size w2 wr))
      case atStart => exact ⟨0, by omega, rfl, rfl, ⟨Kd.R_nil _ _ _ _ _⟩, ⟨Below.refl _ _⟩⟩
      case round =>
        obtain ⟨s, hk, rfl, rfl, HR, hb⟩ := hrel
        have HK := Aside0.mk hk
        have hat := flAt_le k L s
        by_cases hlt : s < k.hs.length
        · have HXo := Aside0.mk (HX2.out.below hb.out)
          have HBo := Aside0.mk (HB2.out.trans (hb.out.mono HB2.out.size))
          have HAT := Aside0.mk (show flAt k L (s + 1) = flEnd k s L (flAt k L s) (L.length - flAt k L s) (flAt k L s) from rfl)
          have HENDS := Aside0.mk (flEnds_succ k L s)
          have hlen := flEnds_len k L s
          obtain ⟨a, ha⟩ : ∃ a, flAt k L s = a := ⟨_, rfl⟩
          rw [ha] at HAT hat ⊢
          clear ha hk
          obtain ⟨gO, rfl⟩ : ∃ g : Nat, g = gk := ⟨_, rfl⟩
          obtain ⟨wo, rfl⟩ : ∃ W : World, W = wr := ⟨_, rfl⟩
          have i0 : (0 : Int) ≤ (s : Int) := by omega
          go_wp2_with fail
          go_loopg [7] (L.length - a) (fun gk v7 wr => ∃ t : Nat, t + gk = L.length ∧ v7 = .int .i64 t ∧ Aside0 (flAt k L (s + 1) = flEnd k s L a gk t ∧ a ≤ t) ∧ Aside0 (Below wo.heap.size wo wr))
          case atStart => exact ⟨a, by omega, rfl, ⟨HAT.out, Nat.le_refl _⟩, ⟨Below.refl _ _⟩⟩
          case round =>
            obtain ⟨t, hk, rfl, hp, hbi⟩ := hrel
            have HKi := Aside0.mk hk
            have HXr := Aside0.mk (HXo.out.below hbi.out)
            have HBr := Aside0.mk (HBo.out.trans (hbi.out.mono HBo.out.size))
            obtain ⟨y0, y1, y2⟩ := HXr.out
            have yO0 : ∀ p : Over wr, p.W.cell? ⟨w.heap.size, 0, none⟩ = some (.int .i16 k.wd) := Over.cell y0
            have yO1 : ∀ p : Over wr, p.W.cell? ⟨w.heap.size, 1, none⟩ = some (.int .i32 k.ld) := Over.cell y1
            have yO2 : ∀ p : Over wr, p.W.cell? ⟨w.heap.size, 2, none⟩ = some (.slice A k.hs.length c) := Over.cell y2
            have hat2 := hp.out.2
            by_cases htl : t < L.length
            · obtain ⟨A', c', hcut, hc', hCC⟩ := cut_bk A1 c1 L a ((t : Int) + 1) (by omega) (by omega) (by omega) hc1
              have HCC := Aside0.mk hCC
              have HF := Aside0.mk (fun W h1 h2 => fits_c k A c s A' c' (subL L a ((t : Int) + 1)) HOK.out (fun b hb => HOL.out b ((subL_sub L _ _).subset hb)) hlt W h1 h2)
              have hg0 : 0 < gk := by omega
              have HY := Aside0.mk (fun h => flEnd_go (k := k) (s := s) (L := L) (a := a) (g := gk) hg0 htl h)
              have HN := Aside0.mk (fun (h : fitL k s (subL L a ((t : Int) + 1)) = false) => flEnd_stop (k := k) (s := s) (L := L) (a := a) (g := gk) (t := t) (by rintro ⟨_, h2⟩; rw [h] at h2; cases h2))
              simp only [Cs.val] at HF
              generalize fitL k s (subL L a ((t : Int) + 1)) = ft at HF HY HN
              generalize subL L a ((t : Int) + 1) = M at HF hcut hc' HCC hCC
              have dt : decide ((t : Int) < (L.length : Int)) = true := decide_eq_true (by omega)
              have dt' : decide (t < L.length) = true := decide_eq_true htl
              have i1 : (t : Int) < (L.length : Int) := by omega
              clear hCC hk
              cases ft
              · have HEND := Aside0.mk (show flAt k L (s + 1) = t by rw [hp.out.1]; exact HN.out rfl)
                clear HY HN
                go_wp2_with fail
                refine region_over (by kernel_rfl) (by kernel_rfl) ?_
                repeat (go_big_quiet_step (first | (go_at_call 120; exact Calls.over_of (HF.out _ (Kd.C_below HC.out (HBr.out.trans ((Over.h _).mono HBr.out.size))) (HCC.out _ (Kd.C_below HL.out (HBr.out.trans ((Over.h _).mono HBr.out.size))))))))
                refine wpQuiet_nil ?_
                intro wq1 hw'
                have hq_wq1 := over_out hw'
                clear hw'
                have HQ := Aside0.mk (bstep hbi.out hq_wq1)
                clear yO0 yO1 yO2 hcut y0 y1 y2 hq_wq1
                have HR1 := Aside0.mk (Kd.R_below HR.out HQ.out)
                have HB1' := Aside0.mk (bstep hb.out HQ.out)
                go_wp2_with (at_builtin; refine i64_append (w := w2) rfl (.tmp 41) (.tmp 43) rfl _ (flEnds k L s) (t : Int) rfl rfl HR1.out HB1'.out (by omega) ?_; intro v1 w9 hR1 hB1 _; have HR9 := Aside0.mk hR1; have HB9 := Aside0.mk hB1; clear hR1 hB1)
                go_roundg (gO - 1)
                case measure => have := HK.out; omega
                case rel => exact ⟨s + 1, by have := HK.out; omega, by go_num, by rw [HEND.out], ⟨by rw [HENDS.out, HEND.out]; exact HR9.out⟩, HB9⟩
              · have HGO := Aside0.mk (show flAt k L (s + 1) = flEnd k s L a (gk - 1) (t + 1) by rw [hp.out.1]; exact HY.out rfl)
                clear HY HN
                go_wp2_with fail
                refine region_over (by kernel_rfl) (by kernel_rfl) ?_
                repeat (go_big_quiet_step (first | (go_at_call 120; exact Calls.over_of (HF.out _ (Kd.C_below HC.out (HBr.out.trans ((Over.h _).mono HBr.out.size))) (HCC.out _ (Kd.C_below HL.out (HBr.out.trans ((Over.h _).mono HBr.out.size))))))))
                refine wpQuiet_nil ?_
                intro wq1 hw'
                have hq_wq1 := over_out hw'
                clear hw'
                have HQ := Aside0.mk (bstep hbi.out hq_wq1)
                clear yO0 yO1 yO2 hcut y0 y1 y2 hq_wq1
                go_wp2
                go_roundg (gk - 1)
                case measure => have := HKi.out; omega
                case rel => exact ⟨t + 1, by have := HKi.out; omega, by go_num, ⟨HGO.out, by omega⟩, HQ⟩
            · have HEND := Aside0.mk (show flAt k L (s + 1) = t by rw [hp.out.1]; exact flEnd_stop (fun h => htl h.1))
              have dt : decide ((t : Int) < (L.length : Int)) = false := decide_eq_false (by omega)
              have dt' : decide (t < L.length) = false := decide_eq_false htl
              have t60 : t ≤ 60 := by omega
              clear hk
              go_wp2_with fail
              refine region_over (by kernel_rfl) (by kernel_rfl) ?_
              repeat (go_big_quiet_step (fail))
              refine wpQuiet_nil ?_
              intro wq1 hw'
              have hq_wq1 := over_out hw'
              clear hw'
              have HQ := Aside0.mk (bstep hbi.out hq_wq1)
              clear yO0 yO1 yO2 y0 y1 y2 hq_wq1
              have HR1 := Aside0.mk (Kd.R_below HR.out HQ.out)
              have HB1' := Aside0.mk (bstep hb.out HQ.out)
              go_wp2_with (at_builtin; refine i64_append (w := w2) rfl (.tmp 41) (.tmp 43) rfl _ (flEnds k L s) (t : Int) rfl rfl HR1.out HB1'.out (by omega) ?_; intro v1 w9 hR1 hB1 _; have HR9 := Aside0.mk hR1; have HB9 := Aside0.mk hB1; clear hR1 hB1)
              go_roundg (gO - 1)
              case measure => have := HK.out; omega
              case rel => exact ⟨s + 1, by have := HK.out; omega, by go_num, by rw [HEND.out], ⟨by rw [HENDS.out, HEND.out]; exact HR9.out⟩, HB9⟩
        · have hs : s = k.hs.length := by omega
          have HBr := Aside0.mk (HB2.out.trans (hb.out.mono HB2.out.size))
          have HR2 := Aside0.mk (Kd.R_lower HR.out HB2.out.size)
          rw [hs] at HR2
          have HAT2 := Aside0.mk (show flAt k L k.hs.length = flAt k L s by rw [hs])
          generalize flAt k L s = a at hat HAT2 ⊢
          clear hk hs
          by_cases hal : a < L.length
          · have HE := Aside0.mk (fs_over HV0.out (by rw [HAT2.out]; exact hal))
            go_wp2
            go_ret2
            rw [HE.out.1, HE.out.2]
            exact ⟨_, rfl, HBr.out, _, rfl, Kd.R_nil _ _ _ _ _⟩
          · have HE := Aside0.mk (fs_ok HV0.out (by rw [HAT2.out]; exact hal))
            go_wp2
            go_ret2
            rw [HE.out.1, HE.out.2]
            exact ⟨_, rfl, HBr.out, _, rfl, HR2.out⟩
set_option maxHeartbeats 4000000 in
theorem specFillShelves_c (k : Cs) (A : Option Addr) (c : Nat) (A1 : Option Addr) (c1 : Nat) (L : List Bk) (hok : k.ok) (hoL : OkL L) (hc1 : L.length ≤ c1) (w : World) (hC : (Kd.int .i16).C w A k.hs.length k.hs) (hL : kBk.C w A1 L.length L) :
    Calls Tryz.prog 51 #[k.val A c, .slice A1 L.length c1] w (RetQ w (TupI w (fsV k L) (fsE k L))) := by
  have hm := Kd.C_max hC
  have hm1 := Kd.C_max hL
  have HA := Aside0.mk (box_asked k A c A1 c1 L hok hoL w hC hL)
  have HC := Aside0.mk hC
  have HL := Aside0.mk hL
  have HB := Aside0.mk (balloc (Below.refl w.heap.size w) (.cells #[.int .i16 k.wd, .int .i32 k.ld, .slice A k.hs.length c] 74))
  have HX := Aside0.mk (CsAt.box w k A c 74)
  clear hC hL
  simp only [Cs.val]
  rcases eCL_split k L with ⟨hv, v1, v2⟩ | hv
  · have HV0 := Aside0.mk hv
    have HFO := Aside0.mk (FitOk.of v2)
    have HVK := Aside0.mk (vCase_bd v1)
    have HOK := Aside0.mk hok
    rw [hv] at HA
    clear hv v1 v2 hok hoL
    have hl60 := HFO.out.len
    have hn12 := HVK.out.n.2
    go_enter Tryz.func51, Tryz.ntmps51
    go_wp2_with fail
    refine HA.out.mono ?_; rintro _ w1 ⟨rfl, hb1⟩
    have HB1 := Aside0.mk (bstep HB.out hb1)
    have HX1 := Aside0.mk (HX.out.below hb1)
    clear hb1
    go_wp2_with fail
    have HR0 := Aside0.mk (R_zero (Kd.int .i64) 2 w1 w1.heap.size (fun _ => True) (Nat.le_refl _) trivial)
    have HBZ := Aside0.mk (balloc (Below.refl w1.heap.size w1) (.cells #[] 2))
    go_loopg [7, 8, 9] k.hs.length (fun gk v6 v7 v21 wr => ∃ s : Nat, s + gk = k.hs.length ∧ v21 = .int .i64 s ∧ v7 = .int .i64 (flAt k L s : Nat) ∧ Aside0 ((Kd.int .i64).R 2 wr w1.heap.size (fun _ => True) v6 (flEnds k L s)) ∧ Aside0 (Below w1.heap.size w1 wr))
    case atStart => exact ⟨0, by omega, rfl, rfl, HR0, HBZ⟩
    case round =>
      clear HR0 HBZ
      obtain ⟨s, hk, rfl, rfl, HR, hb⟩ := hrel
      have HK := Aside0.mk hk
      have hat := flAt_le k L s
      have HXo := Aside0.mk (HX1.out.below hb.out)
      obtain ⟨y0, y1, y2⟩ := HXo.out
      by_cases hlt : s < k.hs.length
      · have HBo := Aside0.mk (HB1.out.trans (hb.out.mono HB1.out.size))
        have HAT := Aside0.mk (show flAt k L (s + 1) = flEnd k s L (flAt k L s) (L.length - flAt k L s) (flAt k L s) from rfl)
        have HENDS := Aside0.mk (flEnds_succ k L s)
        have hlen := flEnds_len k L s
        obtain ⟨a, ha⟩ : ∃ a, flAt k L s = a := ⟨_, rfl⟩
        rw [ha] at HAT hat ⊢
        clear ha hk
        obtain ⟨gO, rfl⟩ : ∃ g : Nat, g = gk := ⟨_, rfl⟩
        obtain ⟨wo, rfl⟩ : ∃ W : World, W = wr := ⟨_, rfl⟩
        have i0 : (0 : Int) ≤ (s : Int) := by omega
        go_wp2_with fail
        clear y0 y1 y2
        go_loopg [10] (L.length - a) (fun gk v7 wr => ∃ t : Nat, t + gk = L.length ∧ v7 = .int .i64 t ∧ Aside0 (flAt k L (s + 1) = flEnd k s L a gk t ∧ a ≤ t) ∧ Aside0 (Below wo.heap.size wo wr))
        case atStart => exact ⟨a, by omega, rfl, ⟨HAT.out, Nat.le_refl _⟩, ⟨Below.refl _ _⟩⟩
        case round =>
          obtain ⟨t, hk, rfl, hp, hbi⟩ := hrel
          have HKi := Aside0.mk hk
          have HXr := Aside0.mk (HXo.out.below hbi.out)
          have HBr := Aside0.mk (HBo.out.trans (hbi.out.mono HBo.out.size))
          have hat2 := hp.out.2
          by_cases htl : t < L.length
          · obtain ⟨A', c', hcut, hc', hCC⟩ := cut_bk A1 c1 L a ((t : Int) + 1) (by omega) (by omega) (by omega) hc1
            have HF := Aside0.mk (l02Free_c k A c s _ A' c' (subL L a ((t : Int) + 1)) HOK.out (HFO.out.sub (subL_sub L _ _)) hlt (HVK.out.h s) wr HXr.out (Kd.C_below HC.out HBr.out) (hCC _ (Kd.C_below HL.out HBr.out)))
            have hg0 : 0 < gk := by omega
            have HY := Aside0.mk (fun h => flEnd_go (k := k) (s := s) (L := L) (a := a) (g := gk) hg0 htl h)
            have HN := Aside0.mk (fun (h : fitL k s (subL L a ((t : Int) + 1)) = false) => flEnd_stop (k := k) (s := s) (L := L) (a := a) (g := gk) (t := t) (by rintro ⟨_, h2⟩; rw [h] at h2; cases h2))
            rw [← free_iff] at HY HN
            generalize freeL k s (subL L a ((t : Int) + 1)) = ft at HF HY HN
            generalize subL L a ((t : Int) + 1) = M at HF hcut hc' hCC
            have i1 : (t : Int) < (L.length : Int) := by omega
            clear hCC hk
            by_cases hft : ft < 0
            · have HEND := Aside0.mk (show flAt k L (s + 1) = t by rw [hp.out.1]; exact HN.out (decide_eq_false (by omega)))
              clear HY HN
              go_wp2_with fail
              refine HF.out.mono ?_; rintro _ wq1 ⟨rfl, hq_wq1⟩
              have HQ := Aside0.mk (bstep hbi.out hq_wq1)
              clear hcut hq_wq1
              have HR1 := Aside0.mk (Kd.R_below HR.out HQ.out)
              have HB1' := Aside0.mk (bstep hb.out HQ.out)
              go_wp2_with (at_builtin; refine i64_append (w := w1) rfl (.tmp 43) (.tmp 45) rfl _ (flEnds k L s) (t : Int) rfl rfl HR1.out HB1'.out (by omega) ?_; intro v1 w9 hR1 hB1 _; have HR9 := Aside0.mk hR1; have HB9 := Aside0.mk hB1; clear hR1 hB1)
              go_roundg (gO - 1)
              case measure => have := HK.out; omega
              case rel => exact ⟨s + 1, by have := HK.out; omega, by go_num, by rw [HEND.out], ⟨by rw [HENDS.out, HEND.out]; exact HR9.out⟩, HB9⟩
            · have HGO := Aside0.mk (show flAt k L (s + 1) = flEnd k s L a (gk - 1) (t + 1) by rw [hp.out.1]; exact HY.out (decide_eq_true (by omega)))
              clear HY HN
              go_wp2_with fail
              refine HF.out.mono ?_; rintro _ wq1 ⟨rfl, hq_wq1⟩
              have HQ := Aside0.mk (bstep hbi.out hq_wq1)
              clear hcut hq_wq1
              go_wp2
              go_roundg (gk - 1)
              case measure => have := HKi.out; omega
              case rel => exact ⟨t + 1, by have := HKi.out; omega, by go_num, ⟨HGO.out, by omega⟩, HQ⟩
          · have HEND := Aside0.mk (show flAt k L (s + 1) = t by rw [hp.out.1]; exact flEnd_stop (fun h => htl h.1))
            have t60 : t ≤ 60 := by omega
            clear hk
            have HR1 := Aside0.mk (Kd.R_below HR.out hbi.out)
            have HB1' := Aside0.mk (bstep hb.out hbi.out)
            go_wp2_with (at_builtin; refine i64_append (w := w1) rfl (.tmp 43) (.tmp 45) rfl _ (flEnds k L s) (t : Int) rfl rfl HR1.out HB1'.out (by omega) ?_; intro v1 w9 hR1 hB1 _; have HR9 := Aside0.mk hR1; have HB9 := Aside0.mk hB1; clear hR1 hB1)
            go_roundg (gO - 1)
            case measure => have := HK.out; omega
            case rel => exact ⟨s + 1, by have := HK.out; omega, by go_num, by rw [HEND.out], ⟨by rw [HENDS.out, HEND.out]; exact HR9.out⟩, HB9⟩
      · have hs : s = k.hs.length := by omega
        have HBr := Aside0.mk (HB1.out.trans (hb.out.mono HB1.out.size))
        have HR2 := Aside0.mk (Kd.R_lower HR.out HB1.out.size)
        rw [hs] at HR2
        have HAT2 := Aside0.mk (show flAt k L k.hs.length = flAt k L s by rw [hs])
        generalize flAt k L s = a at hat HAT2 ⊢
        clear hk hs
        by_cases hal : a < L.length
        · have HE := Aside0.mk (fs_over HV0.out (by rw [HAT2.out]; exact hal))
          go_wp2
          go_ret2
          rw [HE.out.1, HE.out.2]
          exact ⟨_, rfl, balloc HBr.out _, _, rfl, R_zero _ _ _ _ _ HBr.out.size trivial⟩
        · have HE := Aside0.mk (fs_ok HV0.out (by rw [HAT2.out]; exact hal))
          go_wp2
          go_ret2
          rw [HE.out.1, HE.out.2]
          exact ⟨_, rfl, HBr.out, _, rfl, HR2.out⟩
  · have HE := Aside0.mk (fs_bad hv)
    rw [hv] at HA
    clear hv
    go_enter Tryz.func51, Tryz.ntmps51
    go_wp2_with fail
    refine HA.out.mono ?_; rintro _ w1 ⟨rfl, hb1⟩
    have HB1 := Aside0.mk (bstep HB.out hb1)
    clear hb1
    go_wp2_with fail
    go_ret2
    rw [HE.out.1, HE.out.2]
    exact ⟨_, rfl, balloc HB1.out _, _, rfl, R_zero _ _ _ _ _ HB1.out.size trivial⟩
end Go.Proofs.YtgibcacciedobaaGreatDoor
end
section
/- Stable sorting in plain lists: sorted lists of the same elements are the same; insertion, rotation, merging by halves. No condition. -/
namespace Go.Proofs.YtgibcacciedobaaGreatDoor.Srt
set_option linter.unusedVariables false
set_option linter.unusedSimpArgs false
variable {α : Type}
/-- A weak order, as a test. -/
structure Wk (lt : α → α → Bool) : Prop where
  asym : ∀ x y, lt x y = true → lt y x = false
  ntr : ∀ x y z, lt x y = false → lt y z = false → lt x z = false
def eqv (lt : α → α → Bool) (c x : α) : Bool := !lt c x && !lt x c
/-- The same elements, equal ones in the same order. -/
def Stab (lt : α → α → Bool) (L L' : List α) : Prop := ∀ c, L.filter (eqv lt c) = L'.filter (eqv lt c)
def Up (lt : α → α → Bool) (L : List α) : Prop := L.Pairwise (fun x y => lt y x = false)
theorem Stab.refl (lt : α → α → Bool) (L : List α) : Stab lt L L := fun _ => rfl
theorem Stab.trans {lt : α → α → Bool} {A B C : List α} (h : Stab lt A B) (k : Stab lt B C) : Stab lt A C := fun c => (h c).trans (k c)
theorem Stab.symm {lt : α → α → Bool} {A B : List α} (h : Stab lt A B) : Stab lt B A := fun c => (h c).symm
theorem Stab.app {lt : α → α → Bool} {A B C D : List α} (h : Stab lt A B) (k : Stab lt C D) : Stab lt (A ++ C) (B ++ D) := fun c => by
  rw [List.filter_append, List.filter_append, h c, k c]
theorem Wk.irr {lt : α → α → Bool} (h : Wk lt) (x : α) : lt x x = false := by
  cases e : lt x x
  · rfl
  · have := h.asym x x e; rw [e] at this; exact this
theorem Wk.tr {lt : α → α → Bool} (h : Wk lt) {x y z : α} (h1 : lt x y = true) (h2 : lt y z = true) : lt x z = true := by
  cases e : lt x z
  · have := h.ntr x z y e (h.asym y z h2); rw [h1] at this; cases this
  · rfl
theorem Wk.tr1 {lt : α → α → Bool} (h : Wk lt) {x y z : α} (h1 : lt x y = true) (h2 : lt z y = false) : lt x z = true := by
  cases e : lt x z
  · have := h.ntr x z y e h2; rw [h1] at this; cases this
  · rfl
theorem Wk.tr2 {lt : α → α → Bool} (h : Wk lt) {x y z : α} (h1 : lt y x = false) (h2 : lt y z = true) : lt x z = true := by
  cases e : lt x z
  · have := h.ntr y x z h1 e; rw [h2] at this; cases this
  · rfl
theorem eqv_self {lt : α → α → Bool} (h : Wk lt) (x : α) : eqv lt x x = true := by simp [eqv, h.irr]
/-- Two blocks change places: each element behind is below each one ahead. -/
theorem stab_blocks {lt : α → α → Bool} (h : Wk lt) {X Y : List α} (hs : ∀ x, x ∈ X → ∀ y, y ∈ Y → lt y x = true) : Stab lt (X ++ Y) (Y ++ X) := by
  intro c
  rw [List.filter_append, List.filter_append]
  by_cases hx : X.filter (eqv lt c) = []
  · rw [hx]; simp
  · by_cases hy : Y.filter (eqv lt c) = []
    · rw [hy]; simp
    · exfalso
      obtain ⟨x, hx'⟩ := List.exists_mem_of_ne_nil _ hx
      obtain ⟨y, hy'⟩ := List.exists_mem_of_ne_nil _ hy
      rw [List.mem_filter] at hx' hy'
      have h1 := hs x hx'.1 y hy'.1
      have h2 := hx'.2
      have h3 := hy'.2
      simp only [eqv, Bool.and_eq_true, Bool.not_eq_true'] at h2 h3
      have h4 := h.ntr y c x h3.2 h2.1
      rw [h1] at h4; cases h4
/-- Sorted lists of the same elements are the same. -/
theorem up_unique {lt : α → α → Bool} (h : Wk lt) : ∀ (L L' : List α), Up lt L → Up lt L' → Stab lt L L' → L = L' := by
  intro L
  induction L with
  | nil =>
    intro L' _ _ hs
    cases L' with
    | nil => rfl
    | cons y L' =>
      have := hs y
      rw [List.filter_cons_of_pos (eqv_self h y)] at this
      cases this
  | cons x L ih =>
    intro L' hu hu' hs
    cases L' with
    | nil =>
      have := hs x
      rw [List.filter_cons_of_pos (eqv_self h x)] at this
      cases this
    | cons y L' =>
      have hxm : x ∈ y :: L' := by
        have : x ∈ (y :: L').filter (eqv lt x) := by rw [← hs x, List.filter_cons_of_pos (eqv_self h x)]; exact List.mem_cons_self
        exact (List.mem_filter.1 this).1
      have hym : y ∈ x :: L := by
        have : y ∈ (x :: L).filter (eqv lt y) := by rw [hs y, List.filter_cons_of_pos (eqv_self h y)]; exact List.mem_cons_self
        exact (List.mem_filter.1 this).1
      have h1 : lt x y = false := by
        rcases List.mem_cons.1 hxm with rfl | hm
        · exact h.irr _
        · exact (List.pairwise_cons.1 hu').1 x hm
      have h2 : lt y x = false := by
        rcases List.mem_cons.1 hym with rfl | hm
        · exact h.irr _
        · exact (List.pairwise_cons.1 hu).1 y hm
      have hxy : x = y := by
        have := hs x
        rw [List.filter_cons_of_pos (eqv_self h x), List.filter_cons_of_pos (by simp [eqv, h1, h2])] at this
        injection this
      subst hxy
      congr 1
      refine ih L' (List.pairwise_cons.1 hu).2 (List.pairwise_cons.1 hu').2 (fun c => ?_)
      have := hs c
      rw [List.filter_cons, List.filter_cons] at this
      split at this
      · injection this
      · exact this
theorem Stab.length {lt : α → α → Bool} (h : Wk lt) : ∀ {L L' : List α}, Stab lt L L' → L.length = L'.length := by
  intro L
  induction L with
  | nil =>
    intro L' hs
    cases L' with
    | nil => rfl
    | cons y L' =>
      have := hs y
      rw [List.filter_cons_of_pos (eqv_self h y)] at this
      cases this
  | cons x L ih =>
    intro L' hs
    have hx := hs x
    rw [List.filter_cons_of_pos (eqv_self h x)] at hx
    have hm : x ∈ L' := by
      have : x ∈ L'.filter (eqv lt x) := by rw [← hx]; exact List.mem_cons_self
      exact (List.mem_filter.1 this).1
    -- the first element of the class of x in L'
    obtain ⟨A, B, hAB, hA⟩ : ∃ A B, L' = A ++ x :: B ∧ ∀ a, a ∈ A → eqv lt x a = false := by
      clear ih hs hm
      induction L' with
      | nil => simp at hx
      | cons y L' ih =>
        cases e : eqv lt x y with
        | true =>
          rw [List.filter_cons_of_pos e] at hx
          injection hx with h1 h2
          subst h1
          exact ⟨[], L', rfl, fun a ha => by cases ha⟩
        | false =>
          rw [List.filter_cons_of_neg (by simp [e])] at hx
          obtain ⟨A, B, h1, h2⟩ := ih hx
          exact ⟨y :: A, B, by rw [h1]; rfl, fun a ha => by rcases List.mem_cons.1 ha with rfl | ha; exact e; exact h2 a ha⟩
    subst hAB
    have : Stab lt L (A ++ B) := fun c => by
      have hc := hs c
      rw [List.filter_append] at hc
      cases e : eqv lt c x with
      | false =>
        rw [List.filter_cons_of_neg (by simp [e]), List.filter_cons_of_neg (by simp [e])] at hc
        rw [hc, List.filter_append]
      | true =>
        have hAc : A.filter (eqv lt c) = [] := by
          rw [List.filter_eq_nil_iff]
          intro a ha
          have h1 := hA a ha
          intro h2
          simp only [eqv, Bool.and_eq_true, Bool.not_eq_true', Bool.and_eq_false_iff, Bool.not_eq_false'] at e h1 h2
          rcases h1 with h1 | h1
          · have := h.ntr x c a e.2 h2.1; rw [h1] at this; cases this
          · have := h.ntr a c x h2.2 e.1; rw [h1] at this; cases this
        rw [hAc, List.nil_append, List.filter_cons_of_pos e, List.filter_cons_of_pos e] at hc
        injection hc with _ hc
        rw [List.filter_append, hAc, List.nil_append, hc]
    have := ih this
    simp only [List.length_append, List.length_cons] at this ⊢
    omega
theorem Stab.mem {lt : α → α → Bool} (h : Wk lt) {L L' : List α} (hs : Stab lt L L') (x : α) : x ∈ L ↔ x ∈ L' := by
  have a := hs x
  have b : ∀ M : List α, x ∈ M ↔ x ∈ M.filter (eqv lt x) := fun M => by rw [List.mem_filter]; simp [eqv_self h]
  rw [b L, b L', a]
/-- Two elements change places. -/
def swp (L : List α) (i j : Nat) : List α := match L[i]?, L[j]? with
  | some x, some y => (L.set i y).set j x
  | _, _ => L
theorem swp_at {L : List α} {i j : Nat} {x y : α} (h : L[i]? = some x) (k : L[j]? = some y) : swp L i j = (L.set i y).set j x := by unfold swp; rw [h, k]
theorem at_mid (A B : List α) (x : α) : (A ++ x :: B)[A.length]? = some x := by simp
theorem set_mid (A B : List α) (x y : α) : (A ++ x :: B).set A.length y = A ++ y :: B := by
  rw [List.set_append_right _ _ (Nat.le_refl _), Nat.sub_self]; rfl
theorem swp_mid (A M B : List α) (x y : α) : swp (A ++ x :: (M ++ y :: B)) A.length (A.length + 1 + M.length) = A ++ y :: (M ++ x :: B) := by
  have h1 : (A ++ x :: (M ++ y :: B))[A.length]? = some x := at_mid _ _ _
  have e : ∀ z : α, A ++ z :: (M ++ y :: B) = (A ++ z :: M) ++ y :: B := fun z => by simp
  have el : ∀ z : α, (A ++ z :: M).length = A.length + 1 + M.length := fun z => by simp; omega
  have h2 : (A ++ x :: (M ++ y :: B))[A.length + 1 + M.length]? = some y := by rw [e x, ← el x]; exact at_mid _ _ _
  rw [swp_at h1 h2, set_mid, e y, ← el y, set_mid]
  simp
theorem swp_len (L : List α) (i j : Nat) : (swp L i j).length = L.length := by
  unfold swp; split <;> simp
/-- n elements from a on change places with those from b on. -/
def swapF (L : List α) (a b : Nat) : Nat → List α
  | 0 => L
  | n + 1 => swapF (swp L a b) (a + 1) (b + 1) n
theorem swapF_blocks : ∀ (P R A M B : List α), P.length = R.length → swapF (A ++ (P ++ (M ++ (R ++ B)))) A.length (A.length + P.length + M.length) P.length = A ++ (R ++ (M ++ (P ++ B))) := by
  intro P
  induction P with
  | nil => intro R A M B h; cases R with | nil => rfl | cons r R => cases h
  | cons p P ih =>
    intro R A M B h
    cases R with
    | nil => cases h
    | cons r R =>
      have hl : P.length = R.length := by simpa using h
      rw [List.length_cons, swapF]
      have e1 : A ++ (p :: P ++ (M ++ (r :: R ++ B))) = A ++ p :: ((P ++ M) ++ r :: (R ++ B)) := by simp
      have e2 : A.length + (P.length + 1) + M.length = A.length + 1 + (P ++ M).length := by simp; omega
      rw [e1, e2, swp_mid]
      have e3 : A ++ r :: (P ++ M ++ p :: (R ++ B)) = (A ++ [r]) ++ (P ++ ((M ++ [p]) ++ (R ++ B))) := by simp
      have e4 : A.length + 1 = (A ++ [r]).length := by simp
      have e5 : A.length + 1 + (P ++ M).length + 1 = (A ++ [r]).length + P.length + (M ++ [p]).length := by simp; omega
      rw [e3, e5, e4, ih R (A ++ [r]) (M ++ [p]) B hl]
      simp
/-- The elements from s on and those from m on, up to e, change places. -/
def rotd (L : List α) (s m e : Nat) : List α := L.take s ++ ((L.take e).drop m ++ ((L.take m).drop s ++ L.drop e))
theorem rotd_blocks (A X Y B : List α) : rotd (A ++ (X ++ (Y ++ B))) A.length (A.length + X.length) (A.length + X.length + Y.length) = A ++ (Y ++ (X ++ B)) := by
  unfold rotd
  have t1 : (A ++ (X ++ (Y ++ B))).take A.length = A := by simp
  have t2 : (A ++ (X ++ (Y ++ B))).take (A.length + X.length) = A ++ X := by
    rw [← List.append_assoc, ← List.length_append, List.take_left']; rfl
  have t3 : (A ++ (X ++ (Y ++ B))).take (A.length + X.length + Y.length) = A ++ X ++ Y := by
    rw [← List.append_assoc, ← List.append_assoc, ← List.length_append, ← List.length_append, List.take_left']; rfl
  have t4 : (A ++ (X ++ (Y ++ B))).drop (A.length + X.length + Y.length) = B := by
    rw [← List.append_assoc, ← List.append_assoc, ← List.length_append, ← List.length_append, List.drop_left']; rfl
  rw [t1, t2, t3, t4]
  congr 1
  congr 1
  · rw [← List.length_append, List.drop_left']; rfl
  · congr 1
    rw [List.drop_left']; rfl
/-- A list, cut at four places. -/
theorem cut4 (L : List α) {a b c : Nat} (h1 : a ≤ b) (h2 : b ≤ c) (h3 : c ≤ L.length) : ∃ A X Y B, L = A ++ (X ++ (Y ++ B)) ∧ A.length = a ∧ X.length = b - a ∧ Y.length = c - b := by
  refine ⟨L.take a, (L.drop a).take (b - a), (L.drop b).take (c - b), L.drop c, ?_, ?_, ?_, ?_⟩
  · have e1 : L = L.take a ++ L.drop a := (List.take_append_drop a L).symm
    have e2 : L.drop a = (L.drop a).take (b - a) ++ L.drop b := by
      have := (List.take_append_drop (b - a) (L.drop a)).symm
      rwa [List.drop_drop, show a + (b - a) = b by omega] at this
    have e3 : L.drop b = (L.drop b).take (c - b) ++ L.drop c := by
      have := (List.take_append_drop (c - b) (L.drop b)).symm
      rwa [List.drop_drop, show b + (c - b) = c by omega] at this
    rw [← e3, ← e2, ← e1]
  · rw [List.length_take]; omega
  · rw [List.length_take, List.length_drop]; omega
  · rw [List.length_take, List.length_drop]; omega

theorem rot_gt {C : List α} {i j m : Nat} (h : j < i) (hi : i ≤ m) (hl : m + j ≤ C.length) : rotd (swapF C (m - i) m j) (m - i + j) m (m + j) = rotd C (m - i) m (m + j) := by
  obtain ⟨A, X, Y, B, rfl, hA, hX, hY⟩ := cut4 C (show m - i ≤ m by omega) (show m ≤ m + j by omega) hl
  obtain ⟨P, Q, rfl, hP⟩ : ∃ P Q, X = P ++ Q ∧ P.length = j := ⟨X.take j, X.drop j, (List.take_append_drop _ _).symm, by rw [List.length_take]; omega⟩
  simp only [List.length_append] at hX
  have e1 : A ++ (P ++ Q ++ (Y ++ B)) = A ++ (P ++ (Q ++ (Y ++ B))) := by simp
  have s1 := swapF_blocks P Y A Q B (by omega)
  rw [hA, show m - i + P.length + Q.length = m by omega, hP] at s1
  have r1 := rotd_blocks A (P ++ Q) Y B
  rw [hA, show m - i + (P ++ Q).length = m by rw [List.length_append]; omega, show m + Y.length = m + j by omega] at r1
  rw [r1, e1, s1]
  have r2 := rotd_blocks (A ++ Y) Q P B
  rw [show (A ++ Y).length = m - i + j by rw [List.length_append]; omega, show m - i + j + Q.length = m by omega, hP] at r2
  rw [show A ++ (Y ++ (Q ++ (P ++ B))) = A ++ Y ++ (Q ++ (P ++ B)) by simp, r2]
  simp
theorem rot_lt {C : List α} {i j m : Nat} (h : i < j) (hi : i ≤ m) (hl : m + j ≤ C.length) : rotd (swapF C (m - i) (m + j - i) i) (m - i) m (m + (j - i)) = rotd C (m - i) m (m + j) := by
  obtain ⟨A, X, Y, B, rfl, hA, hX, hY⟩ := cut4 C (show m - i ≤ m by omega) (show m ≤ m + j by omega) hl
  obtain ⟨Q, R, rfl, hQ⟩ : ∃ Q R, Y = Q ++ R ∧ Q.length = j - i := ⟨Y.take (j - i), Y.drop (j - i), (List.take_append_drop _ _).symm, by rw [List.length_take]; omega⟩
  simp only [List.length_append] at hY
  have s1 := swapF_blocks X R A Q B (by omega)
  rw [hA, show m - i + X.length + Q.length = m + j - i by omega, show X.length = i by omega] at s1
  have r1 := rotd_blocks A X (Q ++ R) B
  rw [hA, show m - i + X.length = m by omega, show m + (Q ++ R).length = m + j by rw [List.length_append]; omega] at r1
  rw [r1, show A ++ (X ++ (Q ++ R ++ B)) = A ++ (X ++ (Q ++ (R ++ B))) by simp, s1]
  have r2 := rotd_blocks A R Q (X ++ B)
  rw [hA, show m - i + R.length = m by omega, show m + Q.length = m + (j - i) by omega] at r2
  rw [r2]
  simp
theorem rot_eq {C : List α} {i m : Nat} (hi : i ≤ m) (hl : m + i ≤ C.length) : swapF C (m - i) m i = rotd C (m - i) m (m + i) := by
  obtain ⟨A, X, Y, B, rfl, hA, hX, hY⟩ := cut4 C (show m - i ≤ m by omega) (show m ≤ m + i by omega) hl
  have s1 := swapF_blocks X Y A [] B (by omega)
  rw [hA, show m - i + X.length + ([] : List α).length = m by simp; omega, show X.length = i by omega] at s1
  have r1 := rotd_blocks A X Y B
  rw [hA, show m - i + X.length = m by omega, show m + Y.length = m + i by omega] at r1
  rw [r1]
  simpa using s1
theorem swapF_len (L : List α) : ∀ (n a b : Nat), (swapF L a b n).length = L.length := by
  intro n
  induction n generalizing L with
  | zero => intro a b; rfl
  | succ n ih => intro a b; rw [swapF, ih, swp_len]
theorem rotd_len (L : List α) {s m e : Nat} (h1 : s ≤ m) (h2 : m ≤ e) (h3 : e ≤ L.length) : (rotd L s m e).length = L.length := by
  unfold rotd
  simp only [List.length_append, List.length_take, List.length_drop]
  omega
/-- Of [a, b) the list L' is the sorted form of L; beyond it they are the same. -/
def Done (lt : α → α → Bool) (a b : Nat) (L L' : List α) : Prop := ∃ A S S' B, L = A ++ (S ++ B) ∧ L' = A ++ (S' ++ B) ∧ A.length = a ∧ A.length + S.length = b ∧ Stab lt S S' ∧ Up lt S'
theorem Done.len {lt : α → α → Bool} (hw : Wk lt) {a b : Nat} {L L' : List α} (h : Done lt a b L L') : L'.length = L.length := by
  obtain ⟨A, S, S', B, rfl, rfl, _, _, hs, _⟩ := h
  have := hs.length hw
  simp only [List.length_append]
  omega
/-- One element, from behind, to its place. -/
def insF (lt : α → α → Bool) (L : List α) (a : Nat) : Nat → List α
  | 0 => L
  | j + 1 => match L[j + 1]?, L[j]? with
    | some x, some y => if a < j + 1 ∧ lt x y = true then insF lt (swp L (j + 1) j) a j else L
    | _, _ => L
theorem swp_next (A B : List α) (x y : α) : swp (A ++ y :: x :: B) (A.length + 1) A.length = A ++ x :: y :: B := by
  have h1 : (A ++ y :: x :: B)[A.length]? = some y := at_mid _ _ _
  have e : ∀ z u : α, A ++ z :: u :: B = (A ++ [z]) ++ u :: B := fun z u => by simp
  have h2 : (A ++ y :: x :: B)[A.length + 1]? = some x := by rw [e, show A.length + 1 = (A ++ [y]).length by simp]; exact at_mid _ _ _
  rw [swp_at h2 h1, e y x, show A.length + 1 = (A ++ [y]).length by simp, set_mid, ← e, set_mid]
theorem insF_spec {lt : α → α → Bool} (hw : Wk lt) : ∀ (n : Nat) (S A B : List α) (x : α), S.length = n → Up lt S → ∃ S', insF lt (A ++ (S ++ x :: B)) A.length (A.length + n) = A ++ (S' ++ B) ∧ Up lt S' ∧ Stab lt (S ++ [x]) S' := by
  intro n
  induction n with
  | zero =>
    intro S A B x hn hu
    have : S = [] := List.eq_nil_of_length_eq_zero hn
    subst this
    refine ⟨[x], ?_, by simp [Up], Stab.refl _ _⟩
    rw [Nat.add_zero]
    cases hA : A.length with
    | zero => rfl
    | succ k =>
      unfold insF
      split
      · rw [if_neg (by omega)]; rfl
      · rfl
  | succ n ih =>
    intro S A B x hn hu
    obtain ⟨T, y, rfl⟩ : ∃ T y, S = T ++ [y] := by
      have hne : S ≠ [] := by intro h; rw [h] at hn; simp at hn
      exact ⟨S.dropLast, S.getLast hne, (List.dropLast_concat_getLast hne).symm⟩
    have hT : T.length = n := by simpa using hn
    have hup := List.pairwise_append.1 hu
    have e0 : A ++ (T ++ [y] ++ x :: B) = (A ++ T) ++ y :: x :: B := by simp
    have h1 : ((A ++ T) ++ y :: x :: B)[A.length + n]? = some y := by rw [show A.length + n = (A ++ T).length by simp [hT]]; exact at_mid _ _ _
    have h2 : ((A ++ T) ++ y :: x :: B)[A.length + n + 1]? = some x := by
      rw [show (A ++ T) ++ y :: x :: B = (A ++ T ++ [y]) ++ x :: B by simp, show A.length + n + 1 = (A ++ T ++ [y]).length by simp [hT]; omega]; exact at_mid _ _ _
    rw [e0, show A.length + (n + 1) = A.length + n + 1 by omega]
    unfold insF
    rw [h1, h2]
    simp only
    by_cases hlt : lt x y = true
    · rw [if_pos ⟨by omega, hlt⟩]
      have hsw := swp_next (A ++ T) B x y
      rw [show (A ++ T).length = A.length + n by simp [hT]] at hsw
      rw [hsw]
      obtain ⟨T', g1, g2, g3⟩ := ih T A (y :: B) x hT hup.1
      rw [show (A ++ T) ++ x :: y :: B = A ++ (T ++ x :: (y :: B)) by simp, g1]
      refine ⟨T' ++ [y], by simp, ?_, ?_⟩
      · refine List.pairwise_append.2 ⟨g2, by simp, fun u hu' z hz => ?_⟩
        obtain rfl : z = y := by simpa using hz
        have hm := (g3.mem hw u).2 hu'
        rcases List.mem_append.1 hm with hm | hm
        · exact hup.2.2 u hm _ (by simp)
        · obtain rfl : u = x := by simpa using hm
          exact hw.asym _ _ hlt
      · have : Stab lt (T ++ ([y] ++ [x])) (T ++ ([x] ++ [y])) := Stab.app (Stab.refl _ _) (stab_blocks hw (fun u hu v hv => by
          obtain rfl : u = y := by simpa using hu
          obtain rfl : v = x := by simpa using hv
          exact hlt))
        refine Stab.trans (by simpa using this) ?_
        have := Stab.app g3 (Stab.refl lt [y])
        simpa using this
    · rw [if_neg (by simp [hlt])]
      refine ⟨T ++ [y] ++ [x], by simp, ?_, Stab.refl _ _⟩
      have hxy : lt x y = false := by simpa using hlt
      refine List.pairwise_append.2 ⟨hu, by simp, fun u hu' z hz => ?_⟩
      obtain rfl : z = x := by simpa using hz
      rcases List.mem_append.1 hu' with hm | hm
      · have := hup.2.2 u hm y (by simp)
        exact hw.ntr _ _ _ hxy this
      · obtain rfl : u = y := by simpa using hm
        exact hxy
/-- The elements from i on, one after the other, to their places. -/
def insS (lt : α → α → Bool) (L : List α) (a i : Nat) : Nat → List α
  | 0 => L
  | g + 1 => insS lt (insF lt L a i) a (i + 1) g
theorem insS_spec {lt : α → α → Bool} (hw : Wk lt) : ∀ (g : Nat) (S R A B : List α), R.length = g → Up lt S → ∃ S', insS lt (A ++ (S ++ (R ++ B))) A.length (A.length + S.length) g = A ++ (S' ++ B) ∧ Up lt S' ∧ Stab lt (S ++ R) S' := by
  intro g
  induction g with
  | zero =>
    intro S R A B hg hu
    have : R = [] := List.eq_nil_of_length_eq_zero hg
    subst this
    exact ⟨S, by simp [insS], hu, by simpa using Stab.refl lt S⟩
  | succ g ih =>
    intro S R A B hg hu
    cases R with
    | nil => cases hg
    | cons x R =>
      obtain ⟨T, g1, g2, g3⟩ := insF_spec hw S.length S A (R ++ B) x rfl hu
      rw [insS, show A ++ (S ++ (x :: R ++ B)) = A ++ (S ++ x :: (R ++ B)) by simp, g1]
      have hl := g3.length hw
      simp only [List.length_append, List.length_cons, List.length_nil] at hl
      obtain ⟨S', k1, k2, k3⟩ := ih T R A B (by simpa using hg) g2
      rw [show A.length + S.length + 1 = A.length + T.length by omega, k1]
      refine ⟨S', rfl, k2, Stab.trans ?_ k3⟩
      have := Stab.app g3 (Stab.refl lt R)
      simpa using this
theorem insS_done {lt : α → α → Bool} (hw : Wk lt) (L : List α) {a b : Nat} (h1 : a ≤ b) (h2 : b ≤ L.length) : Done lt a b L (insS lt L a (a + 1) (b - (a + 1))) := by
  obtain ⟨A, X, Y, B, rfl, hA, hX, hY⟩ := cut4 L (Nat.le_refl a) h1 h2
  have : X = [] := List.eq_nil_of_length_eq_zero (by omega)
  subst this
  simp only [List.nil_append] at *
  cases Y with
  | nil =>
    have hb : b = a := by simp at hY; omega
    subst hb
    refine ⟨A, [], [], B, rfl, ?_, hA, by simpa using hA, Stab.refl _ _, by simp [Up]⟩
    rw [show b - (b + 1) = 0 by omega]; rfl
  | cons y Y =>
    simp only [List.length_cons] at hY
    obtain ⟨S', k1, k2, k3⟩ := insS_spec hw (b - (a + 1)) [y] Y A B (by omega) (by simp [Up])
    refine ⟨A, y :: Y, S', B, rfl, ?_, hA, by simp; omega, by simpa using k3, k2⟩
    rw [← k1, ← hA]
    simp

/-- The order of two places of a list. -/
def ltAt (lt : α → α → Bool) (L : List α) (h k : Nat) : Bool := match L[h]?, L[k]? with
  | some x, some y => lt x y
  | _, _ => false
theorem ltAt_of {lt : α → α → Bool} {L : List α} {h k : Nat} {x y : α} (hx : L[h]? = some x) (hy : L[k]? = some y) : ltAt lt L h k = lt x y := by unfold ltAt; rw [hx, hy]
/-- The places from a to b are sorted. -/
def Seg (lt : α → α → Bool) (L : List α) (a b : Nat) : Prop := ∀ i j, a ≤ i → i < j → j < b → ltAt lt L j i = false
/-- A search by halves: p is so up to i, and not so from j on. -/
def Half (p : Nat → Bool) (i0 j0 i j : Nat) : Prop := i0 ≤ i ∧ i ≤ j ∧ j ≤ j0 ∧ (∀ k, i0 ≤ k → k < i → p k = true) ∧ (∀ k, j ≤ k → k < j0 → p k = false)
def Falls (p : Nat → Bool) (i0 j0 : Nat) : Prop := ∀ k l, i0 ≤ k → k < l → l < j0 → p l = true → p k = true
theorem Half.start {p : Nat → Bool} {i0 j0 : Nat} (h : i0 ≤ j0) : Half p i0 j0 i0 j0 := ⟨Nat.le_refl _, h, Nat.le_refl _, fun k h1 h2 => absurd h2 (by omega), fun k h1 h2 => absurd h2 (by omega)⟩
theorem Half.yes {p : Nat → Bool} {i0 j0 i j h : Nat} (hh : Half p i0 j0 i j) (hf : Falls p i0 j0) (h1 : i ≤ h) (h2 : h < j) (hp : p h = true) : Half p i0 j0 (h + 1) j := by
  obtain ⟨a, b, c, d, e⟩ := hh
  refine ⟨by omega, by omega, c, fun k h3 h4 => ?_, e⟩
  by_cases e : k = h
  · rw [e]; exact hp
  · exact hf k h h3 (by omega) (by omega) hp
theorem Half.no {p : Nat → Bool} {i0 j0 i j h : Nat} (hh : Half p i0 j0 i j) (hf : Falls p i0 j0) (h1 : i ≤ h) (h2 : h < j) (hp : p h = false) : Half p i0 j0 i h := by
  obtain ⟨a, b, c, d, e⟩ := hh
  refine ⟨a, h1, by omega, d, fun k h3 h4 => ?_⟩
  by_cases e : k = h
  · rw [e]; exact hp
  · cases hk : p k
    · rfl
    · have := hf h k (by omega) (by omega) h4 hk
      rw [hp] at this; cases this
/-- An element goes up g places. -/
def upF (L : List α) (k : Nat) : Nat → List α
  | 0 => L
  | g + 1 => upF (swp L k (k + 1)) (k + 1) g
theorem swp_prev (A B : List α) (x y : α) : swp (A ++ x :: y :: B) A.length (A.length + 1) = A ++ y :: x :: B := by
  have := swp_mid A [] B x y
  simpa using this
theorem upF_blocks (x : α) : ∀ (Y A B : List α), upF (A ++ x :: (Y ++ B)) A.length Y.length = A ++ (Y ++ x :: B) := by
  intro Y
  induction Y with
  | nil => intro A B; rfl
  | cons y Y ih =>
    intro A B
    rw [List.length_cons, upF, show A ++ x :: (y :: Y ++ B) = A ++ x :: y :: (Y ++ B) by simp, swp_prev]
    have := ih (A ++ [y]) B
    rw [show A.length + 1 = (A ++ [y]).length by simp, show A ++ y :: x :: (Y ++ B) = A ++ [y] ++ x :: (Y ++ B) by simp, this]
    simp
theorem upF_len (L : List α) (k g : Nat) : (upF L k g).length = L.length := by
  induction g generalizing L k with
  | zero => rfl
  | succ g ih => rw [upF, ih, swp_len]
/-- An element goes down g places. -/
def downF (L : List α) (k : Nat) : Nat → List α
  | 0 => L
  | g + 1 => downF (swp L k (k - 1)) (k - 1) g
theorem downF_blocks (x : α) : ∀ (n : Nat) (Y A B : List α), Y.length = n → downF (A ++ (Y ++ x :: B)) (A.length + n) n = A ++ x :: (Y ++ B) := by
  intro n
  induction n with
  | zero =>
    intro Y A B h
    have : Y = [] := List.eq_nil_of_length_eq_zero h
    subst this
    rfl
  | succ n ih =>
    intro Y A B h
    obtain ⟨T, y, rfl⟩ : ∃ T y, Y = T ++ [y] := by
      have hne : Y ≠ [] := by intro h'; rw [h'] at h; simp at h
      exact ⟨Y.dropLast, Y.getLast hne, (List.dropLast_concat_getLast hne).symm⟩
    have hT : T.length = n := by simpa using h
    rw [downF, show A.length + (n + 1) - 1 = A.length + n by omega, show A.length + (n + 1) = (A ++ T).length + 1 by simp [hT]; omega, show A ++ (T ++ [y] ++ x :: B) = A ++ T ++ y :: x :: B by simp]
    have e := swp_next (A ++ T) B x y
    rw [show A.length + n = (A ++ T).length by simp [hT], e, show (A ++ T).length = A.length + n by simp [hT], show A ++ T ++ x :: y :: B = A ++ (T ++ x :: (y :: B)) by simp, ih T A (y :: B) hT]
    simp
theorem downF_len (L : List α) (k g : Nat) : (downF L k g).length = L.length := by
  induction g generalizing L k with
  | zero => rfl
  | succ g ih => rw [downF, ih, swp_len]
theorem seg_up {lt : α → α → Bool} {A S B : List α} (h : Seg lt (A ++ (S ++ B)) A.length (A.length + S.length)) : Up lt S := by
  unfold Up
  rw [List.pairwise_iff_getElem]
  intro i j hi hj hij
  have := h (A.length + i) (A.length + j) (by omega) (by omega) (by omega)
  have g : ∀ k (hk : k < S.length), (A ++ (S ++ B))[A.length + k]? = some S[k] := fun k hk => by
    rw [List.getElem?_append_right (by omega), Nat.add_sub_cancel_left, List.getElem?_append_left hk, List.getElem?_eq_getElem hk]
  rwa [ltAt_of (g j hj) (g i hi)] at this
theorem up_seg {lt : α → α → Bool} {A S B : List α} (h : Up lt S) : Seg lt (A ++ (S ++ B)) A.length (A.length + S.length) := by
  intro i j h1 h2 h3
  have g : ∀ k (hk : k < S.length), (A ++ (S ++ B))[A.length + k]? = some S[k] := fun k hk => by
    rw [List.getElem?_append_right (by omega), Nat.add_sub_cancel_left, List.getElem?_append_left hk, List.getElem?_eq_getElem hk]
  have h' := List.pairwise_iff_getElem.1 h (i - A.length) (j - A.length) (by omega) (by omega) (by omega)
  have gi := g (i - A.length) (by omega)
  have gj := g (j - A.length) (by omega)
  rw [show A.length + (i - A.length) = i by omega] at gi
  rw [show A.length + (j - A.length) = j by omega] at gj
  rw [ltAt_of gj gi]
  exact h'
/-- What a merge begins with. -/
def Pre (lt : α → α → Bool) (L : List α) (a m b : Nat) : Prop := ∃ A X Y B, L = A ++ (X ++ (Y ++ B)) ∧ A.length = a ∧ A.length + X.length = m ∧ A.length + X.length + Y.length = b ∧ Up lt X ∧ Up lt Y
theorem Pre.bounds {lt : α → α → Bool} {L : List α} {a m b : Nat} (h : Pre lt L a m b) : a ≤ m ∧ m ≤ b ∧ b ≤ L.length := by
  obtain ⟨A, X, Y, B, rfl, h1, h2, h3, _⟩ := h
  simp only [List.length_append]
  omega
theorem Pre.segs {lt : α → α → Bool} {L : List α} {a m b : Nat} (h : Pre lt L a m b) : Seg lt L a m ∧ Seg lt L m b := by
  obtain ⟨A, X, Y, B, rfl, h1, h2, h3, h4, h5⟩ := h
  refine ⟨?_, ?_⟩
  · have := up_seg (A := A) (B := Y ++ B) h4
    rw [h2] at this
    rwa [← h1]
  · have := up_seg (A := A ++ X) (B := B) h5
    rw [List.length_append, h2, show m + Y.length = b by omega] at this
    simpa using this
/-- A merge of an empty side. -/
theorem Pre.done {lt : α → α → Bool} {L : List α} {a m b : Nat} (h : Pre lt L a m b) (hs : a = m ∨ m = b) : Done lt a b L L := by
  obtain ⟨A, X, Y, B, rfl, h1, h2, h3, h4, h5⟩ := h
  refine ⟨A, X ++ Y, X ++ Y, B, by simp, by simp, h1, by rw [List.length_append]; omega, Stab.refl _ _, ?_⟩
  rcases hs with hs | hs
  · have : X = [] := List.eq_nil_of_length_eq_zero (by omega)
    subst this; simpa using h5
  · have : Y = [] := List.eq_nil_of_length_eq_zero (by omega)
    subst this; simpa using h4
/-- One element on the left: it goes up to its place r. -/
theorem merge_left {lt : α → α → Bool} (hw : Wk lt) {L : List α} {a b r : Nat} (h : Pre lt L a (a + 1) b) (hh : Half (fun k => ltAt lt L k a) (a + 1) b r r) : Done lt a b L (upF L a (r - (a + 1))) := by
  obtain ⟨A, X, Y, B, rfl, h1, h2, h3, h4, h5⟩ := h
  subst h1
  obtain ⟨x, rfl⟩ : ∃ x, X = [x] := by
    match X, h2 with
    | [x], _ => exact ⟨x, rfl⟩
    | [], h => simp at h
    | _ :: _ :: _, h => simp at h
  obtain ⟨b0, _, b1, hlo, hhi⟩ := hh
  obtain ⟨Y1, Y2, rfl, hY⟩ : ∃ P Q, Y = P ++ Q ∧ P.length = r - (A.length + 1) := ⟨Y.take (r - (A.length + 1)), Y.drop (r - (A.length + 1)), (List.take_append_drop _ _).symm, by rw [List.length_take]; simp at h3; omega⟩
  simp only [List.length_append, List.length_cons, List.length_nil] at h3
  have hx : (A ++ ([x] ++ (Y1 ++ Y2 ++ B)))[A.length]? = some x := by simp
  have hy : ∀ k (hk : k < Y1.length), (A ++ ([x] ++ (Y1 ++ Y2 ++ B)))[A.length + 1 + k]? = some Y1[k] := fun k hk => by
    rw [List.getElem?_append_right (by omega), show A.length + 1 + k - A.length = k + 1 by omega]
    simp only [List.singleton_append, List.getElem?_cons_succ, List.append_assoc]
    rw [List.getElem?_append_left hk, List.getElem?_eq_getElem hk]
  have hz : ∀ k (hk : k < Y2.length), (A ++ ([x] ++ (Y1 ++ Y2 ++ B)))[A.length + 1 + Y1.length + k]? = some Y2[k] := fun k hk => by
    rw [List.getElem?_append_right (by omega), show A.length + 1 + Y1.length + k - A.length = (Y1.length + k) + 1 by omega]
    simp only [List.singleton_append, List.getElem?_cons_succ, List.append_assoc]
    rw [List.getElem?_append_right (by omega), show Y1.length + k - Y1.length = k by omega, List.getElem?_append_left hk, List.getElem?_eq_getElem hk]
  have c1 : ∀ y, y ∈ Y1 → lt y x = true := fun y hm => by
    obtain ⟨k, hk, rfl⟩ := List.mem_iff_getElem.1 hm
    have := hlo (A.length + 1 + k) (by omega) (by omega)
    simp only at this
    rwa [ltAt_of (hy k hk) hx] at this
  have c2 : ∀ y, y ∈ Y2 → lt y x = false := fun y hm => by
    obtain ⟨k, hk, rfl⟩ := List.mem_iff_getElem.1 hm
    have := hhi (A.length + 1 + Y1.length + k) (by omega) (by omega)
    simp only at this
    rwa [ltAt_of (hz k hk) hx] at this
  have hup := List.pairwise_append.1 h5
  refine ⟨A, [x] ++ (Y1 ++ Y2), Y1 ++ (x :: Y2), B, by simp, ?_, rfl, by simp; omega, ?_, ?_⟩
  · have := upF_blocks x Y1 A (Y2 ++ B)
    rw [hY] at this
    simpa using this
  · have := Stab.app (stab_blocks hw (X := [x]) (Y := Y1) (fun u hu v hv => by rw [List.mem_singleton.1 hu]; exact c1 v hv)) (Stab.refl lt Y2)
    simpa using this
  · refine List.pairwise_append.2 ⟨hup.1, List.pairwise_cons.2 ⟨c2, hup.2.1⟩, fun u hu v hv => ?_⟩
    rcases List.mem_cons.1 hv with rfl | hv
    · exact hw.asym _ _ (c1 u hu)
    · exact hup.2.2 u hu v hv
/-- One element on the right: it goes down to its place r. -/
theorem merge_right {lt : α → α → Bool} (hw : Wk lt) {L : List α} {a m r : Nat} (h : Pre lt L a m (m + 1)) (hh : Half (fun k => !ltAt lt L m k) a m r r) : Done lt a (m + 1) L (downF L m (m - r)) := by
  obtain ⟨A, X, Y, B, rfl, h1, h2, h3, h4, h5⟩ := h
  subst h1
  subst h2
  obtain ⟨y, rfl⟩ : ∃ y, Y = [y] := by
    match Y, h3 with
    | [y], _ => exact ⟨y, rfl⟩
    | [], h => simp at h
    | _ :: _ :: _, h => simp at h
  obtain ⟨b0, _, b1, hlo, hhi⟩ := hh
  obtain ⟨X1, X2, rfl, hX⟩ : ∃ P Q, X = P ++ Q ∧ P.length = r - A.length := ⟨X.take (r - A.length), X.drop (r - A.length), (List.take_append_drop _ _).symm, by rw [List.length_take]; omega⟩
  simp only [List.length_append] at *
  have hy : (A ++ (X1 ++ X2 ++ ([y] ++ B)))[A.length + (X1.length + X2.length)]? = some y := by
    rw [List.getElem?_append_right (by omega), List.getElem?_append_right (by simp), Nat.add_sub_cancel_left]; simp
  have g1 : ∀ k (hk : k < X1.length), (A ++ (X1 ++ X2 ++ ([y] ++ B)))[A.length + k]? = some X1[k] := fun k hk => by
    rw [List.getElem?_append_right (by omega), Nat.add_sub_cancel_left, List.append_assoc, List.getElem?_append_left hk, List.getElem?_eq_getElem hk]
  have g2 : ∀ k (hk : k < X2.length), (A ++ (X1 ++ X2 ++ ([y] ++ B)))[A.length + X1.length + k]? = some X2[k] := fun k hk => by
    rw [List.getElem?_append_right (by omega), show A.length + X1.length + k - A.length = X1.length + k by omega, List.append_assoc, List.getElem?_append_right (by omega), Nat.add_sub_cancel_left, List.getElem?_append_left hk, List.getElem?_eq_getElem hk]
  have c1 : ∀ x, x ∈ X1 → lt y x = false := fun x hm => by
    obtain ⟨k, hk, rfl⟩ := List.mem_iff_getElem.1 hm
    have := hlo (A.length + k) (by omega) (by omega)
    simp only [Bool.not_eq_true'] at this
    rwa [ltAt_of hy (g1 k hk)] at this
  have c2 : ∀ x, x ∈ X2 → lt y x = true := fun x hm => by
    obtain ⟨k, hk, rfl⟩ := List.mem_iff_getElem.1 hm
    have := hhi (A.length + X1.length + k) (by omega) (by omega)
    simp only [Bool.not_eq_false'] at this
    rwa [ltAt_of hy (g2 k hk)] at this
  have hup := List.pairwise_append.1 h4
  refine ⟨A, X1 ++ X2 ++ [y], X1 ++ (y :: X2), B, by simp, ?_, rfl, by simp; omega, ?_, ?_⟩
  · have := downF_blocks y X2.length X2 (A ++ X1) B rfl
    rw [show (A ++ X1).length + X2.length = A.length + (X1.length + X2.length) by simp; omega] at this
    rw [show A.length + (X1.length + X2.length) - r = X2.length by omega]
    simpa using this
  · have := Stab.app (Stab.refl lt X1) (stab_blocks hw (X := X2) (Y := [y]) (fun u hu v hv => by rw [List.mem_singleton.1 hv]; exact c2 u hu))
    simpa using this
  · refine List.pairwise_append.2 ⟨hup.1, List.pairwise_cons.2 ⟨fun x hx => hw.asym _ _ (c2 x hx), hup.2.1⟩, fun u hu v hv => ?_⟩
    rcases List.mem_cons.1 hv with rfl | hv
    · exact c1 u hu
    · exact hup.2.2 u hu v hv

theorem some_of {L : List α} {i : Nat} (h : i < L.length) : ∃ x, L[i]? = some x := ⟨L[i], List.getElem?_eq_getElem h⟩
section
variable {lt : α → α → Bool} (hw : Wk lt) {L : List α} {i j k : Nat} (hi : i < L.length) (hj : j < L.length) (hk : k < L.length)
include hw hi hj hk
theorem ltAt_tr2 (h1 : ltAt lt L j i = false) (h2 : ltAt lt L j k = true) : ltAt lt L i k = true := by
  obtain ⟨x, hx⟩ := some_of hi; obtain ⟨y, hy⟩ := some_of hj; obtain ⟨z, hz⟩ := some_of hk
  rw [ltAt_of hy hx] at h1; rw [ltAt_of hy hz] at h2; rw [ltAt_of hx hz]
  exact hw.tr2 h1 h2
theorem ltAt_tr1 (h1 : ltAt lt L i j = true) (h2 : ltAt lt L k j = false) : ltAt lt L i k = true := by
  obtain ⟨x, hx⟩ := some_of hi; obtain ⟨y, hy⟩ := some_of hj; obtain ⟨z, hz⟩ := some_of hk
  rw [ltAt_of hx hy] at h1; rw [ltAt_of hz hy] at h2; rw [ltAt_of hx hz]
  exact hw.tr1 h1 h2
theorem ltAt_ntr (h1 : ltAt lt L i j = false) (h2 : ltAt lt L j k = false) : ltAt lt L i k = false := by
  obtain ⟨x, hx⟩ := some_of hi; obtain ⟨y, hy⟩ := some_of hj; obtain ⟨z, hz⟩ := some_of hk
  rw [ltAt_of hx hy] at h1; rw [ltAt_of hy hz] at h2; rw [ltAt_of hx hz]
  exact hw.ntr _ _ _ h1 h2
end
theorem ltAt_irr {lt : α → α → Bool} (hw : Wk lt) {L : List α} {i : Nat} (hi : i < L.length) : ltAt lt L i i = false := by
  obtain ⟨x, hx⟩ := some_of hi
  rw [ltAt_of hx hx]; exact hw.irr x
theorem falls_left {lt : α → α → Bool} (hw : Wk lt) {L : List α} {a b : Nat} (h : Pre lt L a (a + 1) b) : Falls (fun k => ltAt lt L k a) (a + 1) b := by
  intro k l h1 h2 h3 h4
  have hb := h.bounds
  exact ltAt_tr2 hw (by omega) (j := l) (by omega) (by omega) (h.segs.2 k l h1 h2 h3) h4
theorem falls_right {lt : α → α → Bool} (hw : Wk lt) {L : List α} {a m : Nat} (h : Pre lt L a m (m + 1)) : Falls (fun k => !ltAt lt L m k) a m := by
  intro k l h1 h2 h3 h4
  have hb := h.bounds
  simp only [Bool.not_eq_true'] at h4 ⊢
  exact ltAt_ntr hw (by omega) (j := l) (by omega) (by omega) h4 (h.segs.1 k l h1 h2 h3)
/-- The search's bounds in the general step. -/
def lo0 (a m b : Nat) : Nat := if (a + b) / 2 < m then (a + b) / 2 + m - b else a
def hi0 (a m b : Nat) : Nat := if (a + b) / 2 < m then (a + b) / 2 else m
def test (lt : α → α → Bool) (L : List α) (a m b c : Nat) : Bool := !ltAt lt L ((a + b) / 2 + m - 1 - c) c
theorem range_ok {a m b : Nat} (h1 : a < m) (h2 : m < b) : a ≤ lo0 a m b ∧ lo0 a m b ≤ hi0 a m b ∧ hi0 a m b ≤ m ∧ hi0 a m b ≤ (a + b) / 2 ∧ b ≤ (b - a) + a ∧ (a + b) / 2 + m - b ≤ lo0 a m b ∧ (lo0 a m b = a ∨ lo0 a m b + b = (a + b) / 2 + m) ∧ (hi0 a m b = m ∨ hi0 a m b = (a + b) / 2) := by
  unfold lo0 hi0
  split <;> refine ⟨?_, ?_, ?_, ?_, ?_, ?_, ?_, ?_⟩ <;> omega
theorem falls_gen {lt : α → α → Bool} (hw : Wk lt) {L : List α} {a m b : Nat} (h : Pre lt L a m b) (h1 : a < m) (h2 : m < b) : Falls (test lt L a m b) (lo0 a m b) (hi0 a m b) := by
  intro k l g1 g2 g3 g4
  obtain ⟨r1, r2, r3, r4, r5, r6, r7, r8⟩ := range_ok h1 h2
  have hb := h.bounds
  unfold test at g4 ⊢
  simp only [Bool.not_eq_true'] at g4 ⊢
  have e1 := h.segs.1 k l (by omega) g2 (by omega)
  have e2 := h.segs.2 ((a + b) / 2 + m - 1 - l) ((a + b) / 2 + m - 1 - k) (by omega) (by omega) (by omega)
  exact ltAt_ntr hw (by omega) (j := (a + b) / 2 + m - 1 - l) (by omega) (by omega) e2 (ltAt_ntr hw (by omega) (j := l) (by omega) (by omega) g4 e1)
/-- Four parts of a list. -/
theorem Pre.mk' {lt : α → α → Bool} {A X Y B : List α} (h1 : Up lt X) (h2 : Up lt Y) : Pre lt (A ++ (X ++ (Y ++ B))) A.length (A.length + X.length) (A.length + X.length + Y.length) := ⟨A, X, Y, B, rfl, rfl, rfl, rfl, h1, h2⟩
/-- What the general step leaves: the left half, the right half, each to be merged; nothing of the right is below anything of the left. -/
structure Step (lt : α → α → Bool) (L : List α) (a m b s : Nat) : Prop where
  left : Pre lt (rotd L s m ((a + b) / 2 + m - s)) a s ((a + b) / 2)
  right : ∀ L2, Done lt a ((a + b) / 2) (rotd L s m ((a + b) / 2 + m - s)) L2 → Pre lt L2 ((a + b) / 2) ((a + b) / 2 + m - s) b
  all : ∀ L2 L3, Done lt a ((a + b) / 2) (rotd L s m ((a + b) / 2 + m - s)) L2 → Done lt ((a + b) / 2) b L2 L3 → Done lt a b L L3
  le1 : a ≤ s ∧ s ≤ m ∧ m ≤ (a + b) / 2 + m - s ∧ (a + b) / 2 + m - s ≤ b ∧ s ≤ (a + b) / 2 ∧ (a + b) / 2 ≤ (a + b) / 2 + m - s
theorem app_inj {A A' B B' : List α} (h : A ++ B = A' ++ B') (hl : A.length = A'.length) : A = A' ∧ B = B' := List.append_inj h hl
theorem step_gen {lt : α → α → Bool} (hw : Wk lt) {L : List α} {a m b s : Nat} (h : Pre lt L a m b) (h1 : a < m) (h2 : m < b) (hh : Half (test lt L a m b) (lo0 a m b) (hi0 a m b) s s) : Step lt L a m b s := by
  obtain ⟨r1, r2, r3, r4, r5, r6, r7, r8⟩ := range_ok h1 h2
  have hb := h.bounds
  have hsg := h.segs
  obtain ⟨q1, _, q2, hlo, hhi⟩ := hh
  have hmid : a ≤ (a + b) / 2 ∧ (a + b) / 2 ≤ b := by omega
  obtain ⟨A, X, Y, B, rfl, a1, a2, a3, ux, uy⟩ := h
  subst a1
  obtain ⟨X1, X2, rfl, hX⟩ : ∃ P Q, X = P ++ Q ∧ P.length = s - A.length := ⟨X.take (s - A.length), X.drop (s - A.length), (List.take_append_drop _ _).symm, by rw [List.length_take]; omega⟩
  obtain ⟨Y1, Y2, rfl, hY⟩ : ∃ P Q, Y = P ++ Q ∧ P.length = (A.length + b) / 2 - s := ⟨Y.take ((A.length + b) / 2 - s), Y.drop ((A.length + b) / 2 - s), (List.take_append_drop _ _).symm, by rw [List.length_take]; omega⟩
  simp only [List.length_append] at a2 a3
  generalize hM : (A.length + b) / 2 = M at *
  have gx1 : ∀ k (hk : k < X1.length), (A ++ (X1 ++ X2 ++ (Y1 ++ Y2 ++ B)))[A.length + k]? = some X1[k] := fun k hk => by
    rw [List.getElem?_append_right (by omega), Nat.add_sub_cancel_left, List.append_assoc, List.getElem?_append_left hk, List.getElem?_eq_getElem hk]
  have gx2 : ∀ k (hk : k < X2.length), (A ++ (X1 ++ X2 ++ (Y1 ++ Y2 ++ B)))[s + k]? = some X2[k] := fun k hk => by
    rw [List.getElem?_append_right (by omega), List.append_assoc, List.getElem?_append_right (by omega), show s + k - A.length - X1.length = k by omega, List.getElem?_append_left hk, List.getElem?_eq_getElem hk]
  have gy1 : ∀ k (hk : k < Y1.length), (A ++ (X1 ++ X2 ++ (Y1 ++ Y2 ++ B)))[m + k]? = some Y1[k] := fun k hk => by
    rw [List.getElem?_append_right (by omega), List.getElem?_append_right (by simp; omega), List.length_append, show m + k - A.length - (X1.length + X2.length) = k by omega, List.append_assoc, List.getElem?_append_left hk, List.getElem?_eq_getElem hk]
  have gy2 : ∀ k (hk : k < Y2.length), (A ++ (X1 ++ X2 ++ (Y1 ++ Y2 ++ B)))[M + m - s + k]? = some Y2[k] := fun k hk => by
    rw [List.getElem?_append_right (by omega), List.getElem?_append_right (by simp; omega), List.length_append, List.append_assoc, List.getElem?_append_right (by omega), show M + m - s + k - A.length - (X1.length + X2.length) - Y1.length = k by omega, List.getElem?_append_left hk, List.getElem?_eq_getElem hk]
  have hlen : (A ++ (X1 ++ X2 ++ (Y1 ++ Y2 ++ B))).length = b + B.length := by simp only [List.length_append]; omega
  have ge : ∀ i, i < b → i < (A ++ (X1 ++ X2 ++ (Y1 ++ Y2 ++ B))).length := fun i hi => by omega
  have le_of : ∀ i j, A.length ≤ i → i ≤ j → j < m → ltAt lt (A ++ (X1 ++ X2 ++ (Y1 ++ Y2 ++ B))) j i = false := fun i j g1 g2 g3 => by
    by_cases e : i = j
    · rw [e]; exact ltAt_irr hw (ge j (by omega))
    · exact hsg.1 i j g1 (by omega) g3
  have le_of' : ∀ i j, m ≤ i → i ≤ j → j < b → ltAt lt (A ++ (X1 ++ X2 ++ (Y1 ++ Y2 ++ B))) j i = false := fun i j g1 g2 g3 => by
    by_cases e : i = j
    · rw [e]; exact ltAt_irr hw (ge j (by omega))
    · exact hsg.2 i j g1 (by omega) g3
  -- each of Y1 is below each of X2
  have cyx : ∀ x, x ∈ X2 → ∀ y, y ∈ Y1 → lt y x = true := fun x hx y hy => by
    obtain ⟨i, hi, rfl⟩ := List.mem_iff_getElem.1 hx
    obtain ⟨j, hj, rfl⟩ := List.mem_iff_getElem.1 hy
    have ht := hhi s (by omega) (by omega)
    unfold test at ht
    rw [hM] at ht
    simp only [Bool.not_eq_false'] at ht
    have t1 := ltAt_tr2 hw (ge _ (by omega)) (ge _ (by omega)) (ge _ (by omega)) (le_of' (m + j) (M + m - 1 - s) (by omega) (by omega) (by omega)) ht
    have t2 := ltAt_tr1 hw (ge _ (by omega)) (ge _ (by omega)) (ge _ (by omega)) t1 (le_of s (s + i) (by omega) (by omega) (by omega))
    rwa [ltAt_of (gy1 j hj) (gx2 i hi)] at t2
  -- none of Y2 is below one of X1
  have cxy : ∀ x, x ∈ X1 → ∀ y, y ∈ Y2 → lt y x = false := fun x hx y hy => by
    obtain ⟨i, hi, rfl⟩ := List.mem_iff_getElem.1 hx
    obtain ⟨j, hj, rfl⟩ := List.mem_iff_getElem.1 hy
    have ht := hlo (s - 1) (by omega) (by omega)
    unfold test at ht
    rw [hM, show M + m - 1 - (s - 1) = M + m - s by omega] at ht
    simp only [Bool.not_eq_true'] at ht
    have t1 := ltAt_ntr hw (ge _ (by omega)) (ge _ (by omega)) (ge _ (by omega)) (le_of' (M + m - s) (M + m - s + j) (by omega) (by omega) (by omega)) ht
    have t2 := ltAt_ntr hw (ge _ (by omega)) (ge _ (by omega)) (ge _ (by omega)) t1 (le_of (A.length + i) (s - 1) (by omega) (by omega) (by omega))
    rwa [ltAt_of (gy2 j hj) (gx1 i hi)] at t2
  have hux := List.pairwise_append.1 ux
  have huy := List.pairwise_append.1 uy
  have hrot : rotd (A ++ (X1 ++ X2 ++ (Y1 ++ Y2 ++ B))) s m (M + m - s) = A ++ (X1 ++ (Y1 ++ (X2 ++ (Y2 ++ B)))) := by
    have := rotd_blocks (A ++ X1) X2 Y1 (Y2 ++ B)
    rw [show (A ++ X1).length = s by simp; omega, show s + X2.length = m by omega, show m + Y1.length = M + m - s by omega] at this
    rw [show A ++ (X1 ++ X2 ++ (Y1 ++ Y2 ++ B)) = A ++ X1 ++ (X2 ++ (Y1 ++ (Y2 ++ B))) by simp, this]
    simp
  -- what stands in the left half
  have hleft : ∀ L2, Done lt A.length M (A ++ (X1 ++ (Y1 ++ (X2 ++ (Y2 ++ B))))) L2 → ∃ Z, L2 = A ++ (Z ++ (X2 ++ (Y2 ++ B))) ∧ Stab lt (X1 ++ Y1) Z ∧ Up lt Z ∧ Z.length = X1.length + Y1.length := by
    intro L2 hd
    obtain ⟨A', S, S', B', e1, e2, d1, d2, d3, d4⟩ := hd
    obtain ⟨rfl, e3⟩ := app_inj e1 d1.symm
    have e4 : (X1 ++ Y1) ++ (X2 ++ (Y2 ++ B)) = S ++ B' := by simpa using e3
    obtain ⟨rfl, rfl⟩ := app_inj e4 (by rw [List.length_append]; omega)
    exact ⟨S', e2, d3, d4, by rw [← d3.length hw, List.length_append]⟩
  refine ⟨?_, ?_, ?_, by omega⟩
  · rw [hM, hrot]
    have := Pre.mk' (A := A) (B := X2 ++ (Y2 ++ B)) hux.1 huy.1
    rwa [show A.length + X1.length = s by omega, show s + Y1.length = M by omega] at this
  · intro L2 hd
    rw [hM, hrot] at hd
    rw [hM]
    obtain ⟨Z, rfl, z1, z2, z3⟩ := hleft L2 hd
    have := Pre.mk' (A := A ++ Z) (B := B) hux.2.1 huy.2.1
    rw [List.length_append, z3, show A.length + (X1.length + Y1.length) = M by omega, show M + X2.length = M + m - s by omega, show M + m - s + Y2.length = b by omega] at this
    simpa using this
  · intro L2 L3 hd hd'
    rw [hM, hrot] at hd
    rw [hM] at hd'
    obtain ⟨Z, rfl, z1, z2, z3⟩ := hleft L2 hd
    obtain ⟨A', S, S', B', e1, e2, d1, d2, d3, d4⟩ := hd'
    have e0 : (A ++ Z) ++ (X2 ++ (Y2 ++ B)) = A' ++ (S ++ B') := by simpa using e1
    obtain ⟨rfl, e3⟩ := app_inj e0 (by rw [List.length_append]; omega)
    have e4 : (X2 ++ Y2) ++ B = S ++ B' := by simpa using e3
    obtain ⟨rfl, rfl⟩ := app_inj e4 (by rw [List.length_append]; omega)
    refine ⟨A, X1 ++ X2 ++ (Y1 ++ Y2), Z ++ S', B, by simp, by rw [e2]; simp, rfl, by simp only [List.length_append]; omega, ?_, ?_⟩
    · have s1 : Stab lt (X1 ++ (X2 ++ Y1 ++ Y2)) (X1 ++ (Y1 ++ X2 ++ Y2)) := Stab.app (Stab.refl _ _) (Stab.app (stab_blocks hw cyx) (Stab.refl _ _))
      have s2 := Stab.app z1 d3
      refine Stab.trans (by simpa using s1) (Stab.trans ?_ s2)
      have := Stab.refl lt (X1 ++ (Y1 ++ (X2 ++ Y2)))
      simpa using this
    · refine List.pairwise_append.2 ⟨z2, d4, fun u hu v hv => ?_⟩
      have hu' := (z1.mem hw u).2 hu
      have hv' := (d3.mem hw v).2 hv
      rcases List.mem_append.1 hu' with hu' | hu' <;> rcases List.mem_append.1 hv' with hv' | hv'
      · exact hux.2.2 u hu' v hv'
      · exact cxy u hu' v hv'
      · exact hw.asym _ _ (cyx v hv' u hu')
      · exact huy.2.2 u hu' v hv'

theorem Done.seg {lt : α → α → Bool} (hw : Wk lt) {a b : Nat} {L L' : List α} (h : Done lt a b L L') : Seg lt L' a b := by
  obtain ⟨A, S, S', B, rfl, rfl, rfl, h2, h3, h4⟩ := h
  have := up_seg (A := A) (B := B) h4
  rwa [← h3.length hw, h2] at this
theorem Done.get {lt : α → α → Bool} (hw : Wk lt) {a b : Nat} {L L' : List α} (h : Done lt a b L L') {i : Nat} (hi : i < a ∨ b ≤ i) : L'[i]? = L[i]? := by
  obtain ⟨A, S, S', B, rfl, rfl, rfl, h2, h3, h4⟩ := h
  have hl := h3.length hw
  rcases hi with hi | hi
  · rw [List.getElem?_append_left hi, List.getElem?_append_left hi]
  · rw [List.getElem?_append_right (by omega), List.getElem?_append_right (by omega), List.getElem?_append_right (by omega), List.getElem?_append_right (by omega), hl]
theorem Done.seg_out {lt : α → α → Bool} (hw : Wk lt) {a b : Nat} {L L' : List α} (h : Done lt a b L L') {i j : Nat} (hi : j ≤ a ∨ b ≤ i) (hs : Seg lt L i j) : Seg lt L' i j := by
  intro k l g1 g2 g3
  have := hs k l g1 g2 g3
  unfold ltAt at this ⊢
  rwa [h.get hw (by omega), h.get hw (by omega)]
theorem Done.stab {lt : α → α → Bool} {a b : Nat} {L L' : List α} (h : Done lt a b L L') : Stab lt L L' := by
  obtain ⟨A, S, S', B, rfl, rfl, rfl, h2, h3, h4⟩ := h
  exact Stab.app (Stab.refl _ _) (Stab.app h3 (Stab.refl _ _))
theorem seg_pre {lt : α → α → Bool} {L : List α} {a m b : Nat} (h1 : Seg lt L a m) (h2 : Seg lt L m b) (ha : a ≤ m) (hb : m ≤ b) (hl : b ≤ L.length) : Pre lt L a m b := by
  obtain ⟨A, X, Y, B, rfl, hA, hX, hY⟩ := cut4 L ha hb hl
  subst hA
  have e1 : A.length + X.length = m := by omega
  have e2 : A.length + X.length + Y.length = b := by omega
  refine ⟨A, X, Y, B, rfl, rfl, e1, e2, ?_, ?_⟩
  · rw [← e1] at h1; exact seg_up h1
  · rw [← e2, ← e1, ← List.length_append, ← List.append_assoc] at h2; exact seg_up h2
theorem seg_all {lt : α → α → Bool} {L : List α} (h : Seg lt L 0 L.length) : Up lt L := by
  have := seg_up (A := []) (S := L) (B := []) (lt := lt) (by simpa using h)
  exact this
theorem seg_mono {lt : α → α → Bool} {L : List α} {a b c d : Nat} (h : Seg lt L a b) (h1 : a ≤ c) (h2 : d ≤ b) : Seg lt L c d := fun i j g1 g2 g3 => h i j (by omega) g2 (by omega)
theorem seg_short {lt : α → α → Bool} {L : List α} {a b : Nat} (h : b ≤ a + 1) : Seg lt L a b := fun i j g1 g2 g3 => absurd g2 (by omega)
/-- All blocks of k places are sorted. -/
def Blocks (lt : α → α → Bool) (L : List α) (k : Nat) : Prop := ∀ t, Seg lt L (t * k) (min (t * k + k) L.length)
/-- The blocks ahead of place t * k are. -/
def Ahead (lt : α → α → Bool) (L : List α) (k t : Nat) : Prop := ∀ u, u < t → Seg lt L (u * k) (u * k + k)
theorem Ahead.zero (lt : α → α → Bool) (L : List α) (k : Nat) : Ahead lt L k 0 := fun u h => absurd h (by omega)
theorem mul_step {u t k : Nat} (h : u < t) : u * k + k ≤ t * k := by
  have := Nat.mul_le_mul_right k (show u + 1 ≤ t by omega)
  rwa [Nat.add_mul, Nat.one_mul] at this
theorem Ahead.next {lt : α → α → Bool} (hw : Wk lt) {L L' : List α} {k t : Nat} (h : Ahead lt L k t) (hd : Done lt (t * k) (t * k + k) L L') : Ahead lt L' k (t + 1) := by
  intro u hu
  by_cases e : u = t
  · rw [e]; exact hd.seg hw
  · exact hd.seg_out hw (.inl (mul_step (by omega))) (h u (by omega))
theorem Ahead.last {lt : α → α → Bool} (hw : Wk lt) {L L' : List α} {k t : Nat} (h : Ahead lt L k t) (hn : L.length < t * k + k) (hd : Done lt (t * k) L.length L L') : Blocks lt L' k := by
  intro u
  rw [hd.len hw]
  rcases Nat.lt_trichotomy u t with hu | hu | hu
  · exact seg_mono (hd.seg_out hw (.inl (mul_step hu)) (h u hu)) (Nat.le_refl _) (Nat.min_le_left _ _)
  · rw [hu]; exact seg_mono (hd.seg hw) (Nat.le_refl _) (Nat.min_le_right _ _)
  · have := mul_step (k := k) hu
    exact seg_short (by omega)
/-- The blocks from place t * k on are. -/
def Behind (lt : α → α → Bool) (L : List α) (k t : Nat) : Prop := ∀ u, t ≤ u → Seg lt L (u * k) (min (u * k + k) L.length)
theorem Blocks.behind {lt : α → α → Bool} {L : List α} {k : Nat} (h : Blocks lt L k) : Behind lt L k 0 := fun u _ => h u
theorem two_mul_block (t k : Nat) : 2 * t * k = t * (2 * k) := by rw [Nat.mul_comm 2 t, Nat.mul_assoc]
theorem Behind.next {lt : α → α → Bool} (hw : Wk lt) {L L' : List α} {k t : Nat} (h : Behind lt L k (2 * t)) (hd : Done lt (t * (2 * k)) (t * (2 * k) + 2 * k) L L') : Behind lt L' k (2 * (t + 1)) := by
  intro u hu
  rw [hd.len hw]
  refine hd.seg_out hw (.inr ?_) (h u (by omega))
  have := Nat.mul_le_mul_right k hu
  rw [two_mul_block, Nat.add_mul, Nat.one_mul] at this
  exact this
theorem Behind.pre {lt : α → α → Bool} {L : List α} {k t : Nat} (h : Behind lt L k (2 * t)) (hb : t * (2 * k) + 2 * k ≤ L.length) : Pre lt L (t * (2 * k)) (t * (2 * k) + k) (t * (2 * k) + 2 * k) := by
  have h0 := h (2 * t) (Nat.le_refl _)
  have h1 := h (2 * t + 1) (by omega)
  rw [Nat.add_mul, Nat.one_mul, two_mul_block] at h1
  rw [two_mul_block] at h0
  rw [Nat.min_eq_left (by omega)] at h0 h1
  exact seg_pre h0 (seg_mono h1 (Nat.le_refl _) (by omega)) (by omega) (by omega) hb
theorem Behind.pre_last {lt : α → α → Bool} {L : List α} {k t : Nat} (h : Behind lt L k (2 * t)) (hb : t * (2 * k) + k ≤ L.length) (hn : L.length < t * (2 * k) + 2 * k) : Pre lt L (t * (2 * k)) (t * (2 * k) + k) L.length := by
  have h0 := h (2 * t) (Nat.le_refl _)
  have h1 := h (2 * t + 1) (by omega)
  rw [Nat.add_mul, Nat.one_mul, two_mul_block] at h1
  rw [two_mul_block] at h0
  rw [Nat.min_eq_left (by omega)] at h0
  rw [Nat.min_eq_right (by omega)] at h1
  exact seg_pre h0 h1 (by omega) (by omega) (Nat.le_refl _)
theorem Behind.done_last {lt : α → α → Bool} {L : List α} {k t : Nat} (h : Behind lt L k (2 * t)) (ha : t * (2 * k) ≤ L.length) (hn : L.length ≤ t * (2 * k) + k) : Done lt (t * (2 * k)) L.length L L := by
  have h0 := h (2 * t) (Nat.le_refl _)
  rw [two_mul_block, Nat.min_eq_right (by omega)] at h0
  exact (seg_pre h0 (seg_short (by omega)) ha (Nat.le_refl _) (Nat.le_refl _)).done (.inr rfl)
theorem Blocks.up {lt : α → α → Bool} {L : List α} {k : Nat} (h : Blocks lt L k) (hk : L.length ≤ k) : Up lt L := by
  have := h 0
  rw [Nat.zero_mul, Nat.zero_add, Nat.min_eq_right hk] at this
  exact seg_all this
/-- The sorted list. -/
def sortL (lt : α → α → Bool) (L : List α) : List α := insS lt L 0 1 (L.length - 1)
theorem sortL_ok {lt : α → α → Bool} (hw : Wk lt) (L : List α) : Up lt (sortL lt L) ∧ Stab lt L (sortL lt L) := by
  have h := insS_done hw L (Nat.zero_le L.length) (Nat.le_refl _)
  have hl : (sortL lt L).length = L.length := h.len hw
  exact ⟨seg_all (by rw [hl]; exact h.seg hw), h.stab⟩
theorem sortL_of {lt : α → α → Bool} (hw : Wk lt) {L L' : List α} (h1 : Up lt L') (h2 : Stab lt L L') : L' = sortL lt L :=
  up_unique hw _ _ h1 (sortL_ok hw L).1 (h2.symm.trans (sortL_ok hw L).2)
/-- One element more, put behind the last one that is not above it. -/
theorem put_ok {lt : α → α → Bool} (hw : Wk lt) {O : List α} {x : α} {k : Nat} (hu : Up lt O) (h1 : ∀ y, y ∈ O.drop k → lt x y = true) (h2 : ∀ y, y ∈ O.take k → lt x y = false) : Up lt (O.take k ++ x :: O.drop k) ∧ Stab lt (O ++ [x]) (O.take k ++ x :: O.drop k) := by
  have e : O = O.take k ++ O.drop k := (List.take_append_drop k O).symm
  have hu' : Up lt (O.take k ++ O.drop k) := by rw [← e]; exact hu
  have hp := List.pairwise_append.1 hu'
  refine ⟨List.pairwise_append.2 ⟨hp.1, List.pairwise_cons.2 ⟨fun y hy => hw.asym _ _ (h1 y hy), hp.2.1⟩, fun u hu v hv => ?_⟩, ?_⟩
  · rcases List.mem_cons.1 hv with rfl | hv
    · exact h2 u hu
    · exact hp.2.2 u hu v hv
  · have := Stab.app (Stab.refl lt (O.take k)) (stab_blocks hw (X := O.drop k) (Y := [x]) (fun u hu v hv => by rw [List.mem_singleton.1 hv]; exact h1 u hu))
    rw [← List.append_assoc, ← e] at this
    simpa using this
end Go.Proofs.YtgibcacciedobaaGreatDoor.Srt
end
section
/- The laws' marks on rows of books. -/
namespace Go.Proofs.YtgibcacciedobaaGreatDoor
open Go.RowKit Go.Proofs.YtgibcacciedobaaGreatDoorW.PrintWords Go.Proofs.YtgibcacciedobaaGreatDoorW.PrintMore
set_option linter.unusedVariables false
set_option linter.unusedSimpArgs false
set_option maxRecDepth 100000

def markB (m : Int) : Bk := ⟨IntKind.i16.wrap m, (m + 1) % 256, (m + 1 + 1) % 256, (m + 1 + 1 + 1) % 256, IntKind.i16.wrap (m + 1 + 1 + 1 + 1), IntKind.i16.wrap (m + 1 + 1 + 1 + 1 + 1), IntKind.i16.wrap (m + 1 + 1 + 1 + 1 + 1 + 1), IntKind.i16.wrap (m + 1 + 1 + 1 + 1 + 1 + 1 + 1)⟩
def markL (m : Int) : Nat → List Bk
  | 0 => []
  | n + 1 => markB m :: markL (m + 8) n
theorem markL_len (m : Int) (n : Nat) : (markL m n).length = n := by
  induction n generalizing m with
  | zero => rfl
  | succ n ih => simp [markL, ih]
theorem markL_at (m : Int) {n i : Nat} (h : i < n) : (markL m n)[i]? = some (markB (m + 8 * (i : Int))) := by
  induction n generalizing m i with
  | zero => omega
  | succ n ih =>
    rw [markL]
    cases i with
    | zero => simp
    | succ i =>
      rw [List.getElem?_cons_succ, ih (m + 8) (by omega)]
      congr 2
      omega
theorem markL_snoc (m : Int) (n : Nat) : markL m (n + 1) = markL m n ++ [markB (m + 8 * (n : Int))] := by
  induction n generalizing m with
  | zero => simp [markL]
  | succ n ih =>
    rw [markL, ih (m + 8), markL]
    simp only [List.cons_append, List.cons.injEq, true_and]
    congr 3
    omega
theorem markL_set {L : List Bk} {m : Int} {k : Nat} (h : k < L.length) : (markL m k ++ L.drop k).set k (markB (m + 8 * (k : Int))) = markL m (k + 1) ++ L.drop (k + 1) := by
  have hl : (markL m k).length = k := markL_len m k
  rw [List.set_append_right _ _ (by omega), hl, Nat.sub_self, markL_snoc, List.drop_eq_getElem_cons h, List.set_cons_zero]
  simp
/-- All cells of element k are written. -/
theorem own_put8 {w0 W : World} {g n cap : Nat} {xs : List Bk} {k : Nat} (b : Bk) (h : Own kBk 30 w0 W (.slice (some ⟨g, 0, none⟩) n cap) xs) (hk : k < n) :
    Own kBk 30 w0 (W.setCells g (k * 8) (Bk.cells b)) (.slice (some ⟨g, 0, none⟩) n cap) (xs.set k b) ∧ W.grownBy (W.setCells g (k * 8) (Bk.cells b)) (some g) := by
  obtain ⟨c, hcl, _, hcc, _⟩ := Kd.R_elem h zBk (k : Int) (by omega) (by omega)
  have hcl8 : c.length = 8 := hcl
  have := Kd.R_seg (okp := fun _ => False) h (k : Int) (by omega) (by omega) hcl (seg := Bk.cells b) (j := 0) (by simpa using hcc) (by show 0 + 8 ≤ 8; omega) (x' := b) (by
    show _ = Bk.cells b
    rw [List.drop_of_length_le (by show c.length ≤ 0 + 8; omega)]
    simp) (fun _ h => h.elim)
  rw [Int.toNat_natCast] at this
  exact this
theorem own_cells8 {w0 W : World} {g n cap : Nat} {xs : List Bk} {k : Nat} (h : Own kBk 30 w0 W (.slice (some ⟨g, 0, none⟩) n cap) xs) (hk : k < n) :
    ∃ c0 c1 c2 c3 c4 c5 c6 c7, W.cell? ⟨g, k * 8, none⟩ = some c0 ∧ W.cell? ⟨g, k * 8 + 1, none⟩ = some c1 ∧ W.cell? ⟨g, k * 8 + 2, none⟩ = some c2 ∧ W.cell? ⟨g, k * 8 + 3, none⟩ = some c3 ∧ W.cell? ⟨g, k * 8 + 4, none⟩ = some c4 ∧ W.cell? ⟨g, k * 8 + 5, none⟩ = some c5 ∧ W.cell? ⟨g, k * 8 + 6, none⟩ = some c6 ∧ W.cell? ⟨g, k * 8 + 7, none⟩ = some c7 ∧
      W.frozen? ⟨g, k * 8, none⟩ = false ∧ W.frozen? ⟨g, k * 8 + 1, none⟩ = false ∧ W.frozen? ⟨g, k * 8 + 2, none⟩ = false ∧ W.frozen? ⟨g, k * 8 + 3, none⟩ = false ∧ W.frozen? ⟨g, k * 8 + 4, none⟩ = false ∧ W.frozen? ⟨g, k * 8 + 5, none⟩ = false ∧ W.frozen? ⟨g, k * 8 + 6, none⟩ = false ∧ W.frozen? ⟨g, k * 8 + 7, none⟩ = false := by
  obtain ⟨c, hcl, _, hcc, hf⟩ := Kd.R_elem h zBk (k : Int) (by omega) (by omega)
  rw [Int.toNat_natCast] at hcc hf
  have hcl8 : c.length = 8 := hcl
  match c, hcl8 with
  | [c0, c1, c2, c3, c4, c5, c6, c7], _ =>
    exact ⟨c0, c1, c2, c3, c4, c5, c6, c7, hcc 0 _ rfl, hcc 1 _ rfl, hcc 2 _ rfl, hcc 3 _ rfl, hcc 4 _ rfl, hcc 5 _ rfl, hcc 6 _ rfl, hcc 7 _ rfl, hf 0, hf 1, hf 2, hf 3, hf 4, hf 5, hf 6, hf 7⟩
/-- A marked row, as the reader finds it. -/
theorem heldCB {w0 w : World} {A : Option Addr} {n c : Nat} {m : Int} (h : Own kBk 30 w0 w (.slice A n c) (markL m n)) : kBk.C w A n (markL m n) := by
  have := h.reads
  rwa [markL_len] at this
theorem heldCI {k : IntKind} {e : Nat} {w0 w : World} {A : Option Addr} {n c : Nat} {m : Int} {f : Int → Int} (h : Own (Kd.int k) e w0 w (.slice A n c) ((upI m n).map f)) : (Kd.int k).C w A n ((upI m n).map f) := by
  have := h.reads
  rwa [List.length_map, upI_len] at this
end Go.Proofs.YtgibcacciedobaaGreatDoor
end
