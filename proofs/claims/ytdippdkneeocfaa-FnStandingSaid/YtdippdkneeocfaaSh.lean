/- The books of each shelf; what is free on it, what it costs: the program's. -/
import Derived.Test.YtdippdkneeocfaaPosX
import Derived.Test.YtdippdkneeocfaaRow
import Derived.StillTailTactics
import Derived.Still
import Derived.Deep.QuietTactic
import Derived.BigQuiet
namespace Go.Proofs.Ytdippdkneeocfaa
open Go.RowKit Go.Proofs.YtdippdkneeocfaaW.PrintWords Go.Proofs.YtdippdkneeocfaaW.PrintMore
set_option linter.unusedVariables false
set_option linter.unusedSimpArgs false
set_option maxRecDepth 100000

/-- A list of books that is read in an elder world. -/
def kSh (w0 : World) : Kd (List Bk) := Kd.fixed (Kd.slice 27 kBk) w0
theorem info_sl : (Try.prog.info? 33).map (fun i => (i.zero, i.size, i.bytes)) = some (some (.slice none 0 0), 1, 24) := by kernel_rfl
section
variable {ops : Array Oper} {rest : List Oper} {o : Oper} {a : Act} {Q : Exit → Act → World → Prop}
theorem sh_append {w0 w W : World} (hgd : o.guard = none) (s x : Operand) (ho : o.op = .call { callee := .builtin .append, args := #[s, x], argTypes := #[133, 133] }) (v : Value) (xs : List (List Bk)) (A' : Option Addr) (c' : Nat) (p : List Bk)
    (hs : a.eval s = v) (hx : a.eval x = .slice (some ⟨W.heap.size, 0, none⟩) 1 1) (HO : (kSh w0).R 33 W w.heap.size (fun _ => True) v xs) (HB : Below w.heap.size w W) (hl : xs.length ≤ 1000) (hp : p.length ≤ c') (hC : kBk.C w0 A' p.length p)
    (h : ∀ v1 w1, (kSh w0).R 33 w1 w.heap.size (fun _ => True) v1 (xs ++ [p]) → Below w.heap.size w w1 → wpList Try.prog ops Q rest (a.put o.dst v1) w1) :
    wpList Try.prog ops Q (o :: rest) a (W.alloc (.cells #[.slice A' p.length c'] 33)) :=
  Kd.R_append (kSh w0) (w0 := w) w.heap.size hgd s x 133 33 (.slice none 0 0) 24 ho Try.underlying133 info_sl rfl Nat.one_pos (by decide) v xs p [.slice A' p.length c'] (fun _ => True) (fun _ => False) hs hx ⟨A', c', rfl, hp, hC⟩ (fun _ h => h.elim) (fun _ _ => trivial) HO HB HB.size (by omega)
    (fun v1 w1 h1 h2 _ _ => h v1 w1 h1 h2)
end
theorem at_sh {w0 w : World} {A : Option Addr} {X : List (List Bk)} {n : Nat} (h : (kSh w0).C w A n X) (i : Nat) (hi : i < n) :
    ∃ ad p A' c', A = some ad ∧ Aside0 (X[i]? = some p) ∧ w.cell? (ad.add i) = some (.slice A' p.length c') ∧ p.length ≤ c' ∧ Aside0 (kBk.C w0 A' p.length p) := by
  have hl : i < X.length := by have := Kd.C_len h; omega
  obtain ⟨ad, c, e, hc, hK, hcc⟩ := Kd.C_get h X[i] i (by omega) (by omega)
  rw [Int.toNat_natCast] at hK hcc
  have hx : X.getD i X[i] = X[i] := by simp [List.getD_eq_getElem?_getD, List.getElem?_eq_getElem hl]
  rw [hx] at hK
  obtain ⟨A', c', rfl, h1, h2⟩ := hK
  have := hcc 0 _ rfl
  refine ⟨ad, X[i], A', c', e, ⟨List.getElem?_eq_getElem hl⟩, ?_, h1, ⟨h2⟩⟩
  simpa [kSh, Kd.fixed, Kd.slice] using this
/-- The books of a shelf; of the first n shelves. -/
def shB (L : List Bk) (E : List Int) (s : Nat) : List Bk := subL L (bef E s) (E.getD s 0)
def shL (L : List Bk) (E : List Int) (n : Nat) : List (List Bk) := (List.range n).map (shB L E)
theorem shL_succ (L : List Bk) (E : List Int) (n : Nat) : shL L E (n + 1) = shL L E n ++ [shB L E n] := by unfold shL; rw [List.range_succ, List.map_append]; rfl
theorem shL_len (L : List Bk) (E : List Int) (n : Nat) : (shL L E n).length = n := by unfold shL; rw [List.length_map, List.length_range]
theorem shL_at {L : List Bk} {E : List Int} {n i : Nat} {p : List Bk} (h : (shL L E n)[i]? = some p) : p = shB L E i := by
  unfold shL at h
  rw [List.getElem?_map] at h
  cases e : (List.range n)[i]? with
  | none => rw [e] at h; cases h
  | some j =>
    rw [e] at h
    obtain ⟨hl, hj⟩ := List.getElem?_eq_some_iff.1 e
    rw [List.getElem_range] at hj
    subst hj
    exact (Option.some.inj h).symm
def NewSh (w : World) (X : List (List Bk)) (v : Value) (w' : World) : Prop := (kSh w).R 33 w' w.heap.size (fun _ => True) v X
theorem NewSh.open {w w' : World} {X : List (List Bk)} {v : Value} (h : NewSh w X v w') : ∃ A c, v = .slice A X.length c ∧ X.length ≤ c ∧ Aside0 ((kSh w).C w' A X.length X) := by
  obtain ⟨A, c, h1, h2, h3⟩ := Kd.R_reads h
  exact ⟨A, c, h1, h2, ⟨h3⟩⟩
set_option maxHeartbeats 2000000 in
theorem onShelves_c (k : Cs) (A1 : Option Addr) (c1 : Nat) (L : List Bk) (A2 : Option Addr) (c2 : Nat) (E : List Int) (hP : LayP k L E) (hc1 : L.length ≤ c1) (w : World) (hL : kBk.C w A1 L.length L) (hE : (Kd.int .i64).C w A2 E.length E) :
    Calls Try.prog 140 #[.slice A1 L.length c1, .slice A2 E.length c2] w (RetQ w (NewSh w (shL L E E.length))) := by
  have hm1 := Kd.C_max hL
  have hm2 := Kd.C_max hE
  have HL := Aside0.mk hL
  have HE := Aside0.mk hE
  have HP := Aside0.mk hP
  have hn12 : E.length ≤ 12 := by have := (vCase_bd hP.case).n.2; have := hP.n; omega
  clear hL hE hP
  go_enter Try.func140, Try.ntmps140
  go_wp2_with fail
  go_loopg [5, 10] E.length (fun gk v5 v10 wr => ∃ s : Nat, s + gk = E.length ∧ v10 = .int .i64 s ∧ Aside0 ((kSh w).R 33 wr w.heap.size (fun _ => True) v5 (shL L E s)) ∧ Aside0 (Below w.heap.size w wr))
  case atStart => exact ⟨0, by omega, rfl, ⟨Kd.R_nil _ _ _ _ _⟩, ⟨Below.refl _ _⟩⟩
  case round =>
    obtain ⟨s, hk, rfl, HR, hb⟩ := hrel
    have HK := Aside0.mk hk
    by_cases hlt : s < E.length
    · obtain ⟨ad, e, rfl, hbe, hxe⟩ := at_int' (Kd.C_below HE.out hb.out) s hlt
      have hse := (HP.out.s s hlt).1
      have ha0 := (HP.out.nn s (by omega)).1
      have HF := Aside0.mk (fun W h => before_c (some ad) c2 E s (by omega) W h)
      have HS := Aside0.mk (shL_succ L E s)
      have hlen := shL_len L E s
      rw [getD_of hbe.out] at hse
      have HSB := Aside0.mk (show shB L E s = subL L (bef E s) e by unfold shB; rw [getD_of hbe.out])
      rw [HSB.out] at HS
      obtain ⟨A', c', hcut, hc', hCC⟩ := cut_bk A1 c1 L (bef E s) e ha0 hse.1 hse.2 hc1
      have HCC := Aside0.mk (hCC _ HL.out)
      generalize bef E s = a at HF HS hcut hc' HCC hse ha0
      generalize subL L a e = M at HS hcut hc' HCC
      have i0 : (0 : Int) ≤ (s : Int) := by omega
      have i1 : (s : Int) < (E.length : Int) := by omega
      clear hk hCC HSB
      go_wp2_with fail
      refine (HF.out _ (Kd.C_below HE.out hb.out)).mono ?_; rintro _ w3 ⟨rfl, rfl⟩
      go_wp2_with (at_builtin; refine sh_append (w0 := w) (w := w) rfl (.tmp 15) (.tmp 22) rfl _ (shL L E s) A' c' M rfl rfl HR.out hb.out (by omega) hc' HCC.out ?_; intro v1 w9 hR1 hB1; have HR9 := Aside0.mk hR1; have HB9 := Aside0.mk hB1; clear hR1 hB1)
      go_roundg (gk - 1)
      case measure => have := HK.out; omega
      case rel => exact ⟨s + 1, by have := HK.out; omega, by go_num, ⟨by rw [HS.out]; exact HR9.out⟩, HB9⟩
    · have hs : s = E.length := by omega
      rw [hs] at HR
      clear hk hs
      go_wp2
      go_ret
      exact ⟨_, rfl, hb.out, HR.out⟩
/-- What is free; what it costs. -/
def frL (k : Cs) (M : List Bk) : Int := k.wd - (totL M).x
def sqL (k : Cs) (M : List Bk) : Int := if M.length = 0 then 0 else frL k M * frL k M
def usL (M : List Bk) : Int := if M.length = 0 then 0 else 1
theorem frL_bd {k : Cs} {M : List Bk} {s : Nat} (hk : CsBd k) (hM : FitOk M) (hf : fitL k s M = true) : 0 ≤ frL k M ∧ frL k M ≤ 2000 := by
  have h1 := (hM.tot M.length (Nat.le_refl _)).1
  rw [List.take_length] at h1
  have h2 := hk.wd
  unfold fitL fitT at hf
  simp only [Bool.and_eq_true, decide_eq_true_eq] at hf
  unfold frL
  omega
theorem sq_bd {a : Int} (h0 : 0 ≤ a) (h1 : a ≤ 2000) : 0 ≤ a * a ∧ a * a ≤ 4000000 := ⟨Int.mul_nonneg h0 h0, Int.mul_le_mul h1 h1 h0 (by omega)⟩
set_option maxHeartbeats 2000000 in
theorem free_c (k : Cs) (A : Option Addr) (c : Nat) (A1 : Option Addr) (c1 : Nat) (M : List Bk) (hok : k.ok) (hM : FitOk M) (hoM : OkL M) (w : World) (hL : kBk.C w A1 M.length M) :
    Calls Try.prog 148 #[k.val A c, .slice A1 M.length c1] w (Ret w (.int .i64 (frL k M))) := by
  have HL := Aside0.mk hL
  have HT := Aside0.mk (fun W h => totals_c A1 c1 M hoM W h)
  have HB := Aside0.mk (balloc (Below.refl w.heap.size w) (.cells #[.int .i16 k.wd, .int .i32 k.ld, .slice A k.hs.length c] 51))
  have HX := Aside0.mk (CsAt.box w k A c 51)
  have HR := Aside0.mk (show frL k M = k.wd - (totL M).x from rfl)
  obtain ⟨⟨o1, o2⟩, _, _⟩ := hok
  have htb := (hM.tot M.length (Nat.le_refl _)).1
  have hml := hM.len
  rw [List.take_length] at htb
  obtain ⟨t1, t2⟩ := htb
  generalize totL M = t at HT HR t1 t2
  have hfst := arr3_fst t.x t.y t.z
  have t3 : t.x ≤ 6000 := by omega
  simp only [T3.cells] at HT
  obtain ⟨y0, y1, y2⟩ := HX.out
  clear hL t2
  simp only [Cs.val]
  go_enter Try.func148, Try.ntmps148
  go_wp2_with fail
  generalize World.alloc w _ = W0 at HB HX y0 y1 y2 ⊢
  have yO0 : ∀ p : Over W0, p.W.cell? ⟨w.heap.size, 0, none⟩ = some (.int .i16 k.wd) := Over.cell y0
  refine region_over (by kernel_rfl) (by kernel_rfl) ?_
  repeat (go_big_quiet_step (first | (go_at_call 138; exact Calls.over_of (HT.out _ (Kd.C_below HL.out (HB.out.trans ((Over.h _).mono HB.out.size)))))))
  refine wpQuiet_nil ?_
  intro wq1 hw'
  have hq_wq1 := over_out hw'
  clear hw'
  have HQ := Aside0.mk (HB.out.trans (hq_wq1.mono HB.out.size))
  clear hq_wq1 yO0 y0 y1 y2
  go_wp2
  go_ret
  exact ⟨ret_int HR.out.symm, HQ.out⟩
set_option maxHeartbeats 2000000 in
theorem square_c (k : Cs) (A : Option Addr) (c : Nat) (A1 : Option Addr) (c1 : Nat) (M : List Bk) (s : Nat) (hok : k.ok) (hbd : CsBd k) (hM : FitOk M) (hoM : OkL M) (hfit : fitL k s M = true) (w : World) (hL : kBk.C w A1 M.length M) :
    Calls Try.prog 143 #[k.val A c, .slice A1 M.length c1] w (Ret w (.int .i64 (sqL k M))) := by
  have HL := Aside0.mk hL
  have hm := Kd.C_max hL
  have HF := Aside0.mk (fun W h => free_c k A c A1 c1 M hok hM hoM W h)
  have HB := Aside0.mk (balloc (Below.refl w.heap.size w) (.cells #[.int .i16 k.wd, .int .i32 k.ld, .slice A k.hs.length c] 51))
  have HX := Aside0.mk (CsAt.box w k A c 51)
  obtain ⟨f0, f1⟩ := frL_bd hbd hM hfit
  obtain ⟨g0, g1⟩ := sq_bd f0 f1
  clear hL
  simp only [Cs.val] at HF ⊢
  by_cases h0 : M.length = 0
  · have HR := Aside0.mk (show sqL k M = 0 by unfold sqL; rw [if_pos h0])
    have b0 : ((M.length : Int) == 0) = true := by simp [h0]
    have b0' : (M.length == 0) = true := by simp [h0]
    clear h0
    go_enter Try.func143, Try.ntmps143
    go_wp2_with fail
    go_ret
    exact ⟨ret_int HR.out.symm, HB.out⟩
  · have HR := Aside0.mk (show sqL k M = frL k M * frL k M by unfold sqL; rw [if_neg h0])
    have b0 : ((M.length : Int) == 0) = false := by simpa using h0
    have b0' : (M.length == 0) = false := by simpa using h0
    have hw : IntKind.i64.wrap (frL k M * frL k M) = frL k M * frL k M := by generalize frL k M * frL k M = q at g0 g1; simp only [IntKind.wrap, IntKind.bits, IntKind.signed, Bool.true_and, decide_eq_true_eq, ge_iff_le]; split <;> omega
    obtain ⟨y0, y1, y2⟩ := HX.out
    generalize frL k M = q at HF HR hw f0 f1 g0 g1
    clear h0
    go_enter Try.func143, Try.ntmps143
    go_wp2_with fail
    generalize World.alloc w _ = W0 at HB HX y0 y1 y2 ⊢
    have yO0 : ∀ p : Over W0, p.W.cell? ⟨w.heap.size, 0, none⟩ = some (.int .i16 k.wd) := Over.cell y0
    have yO1 : ∀ p : Over W0, p.W.cell? ⟨w.heap.size, 1, none⟩ = some (.int .i32 k.ld) := Over.cell y1
    have yO2 : ∀ p : Over W0, p.W.cell? ⟨w.heap.size, 2, none⟩ = some (.slice A k.hs.length c) := Over.cell y2
    refine region_over (by kernel_rfl) (by kernel_rfl) ?_
    repeat (go_big_quiet_step (first | (go_at_call 148; exact Calls.over_of (HF.out _ (Kd.C_below HL.out (HB.out.trans ((Over.h _).mono HB.out.size)))))))
    refine wpQuiet_nil ?_
    intro wq1 hw'
    have hq_wq1 := over_out hw'
    clear hw'
    have HQ := Aside0.mk (HB.out.trans (hq_wq1.mono HB.out.size))
    clear hq_wq1 yO0 yO1 yO2 y0 y1 y2
    go_wp2
    go_ret
    exact ⟨ret_int HR.out.symm, HQ.out⟩
theorem used_c (A1 : Option Addr) (c1 : Nat) (M : List Bk) (w : World) (hm : M.length ≤ 9223372036854775807) :
    Calls Try.prog 141 #[.slice A1 M.length c1] w (RetS w (.int .i64 (usL M))) := by
  by_cases h0 : M.length = 0
  · have HR := Aside0.mk (show usL M = 0 by unfold usL; rw [if_pos h0])
    have b0 : (M.length : Int) < 1 := by omega
    go_enter Try.func141, Try.ntmps141
    go_wp2
    all_goals (go_ret; refine ⟨ret_int ?_, rfl⟩; first | exact HR.out.symm | (rw [HR.out]; omega) | omega)
  · have HR := Aside0.mk (show usL M = 1 by unfold usL; rw [if_neg h0])
    have b0 : ¬ (M.length : Int) < 1 := by omega
    go_enter Try.func141, Try.ntmps141
    go_wp2
    all_goals (go_ret; refine ⟨ret_int ?_, rfl⟩; first | exact HR.out.symm | (rw [HR.out]; omega) | omega)
end Go.Proofs.Ytdippdkneeocfaa
