/- Texts of this proof that belong together: CmpT, MapB, Order, CmpU, Valid, Out, RunM, Sorted, Runs, RunsV, CompareBy, PlaceM, SCode, Place, Sort, Merge, Pairs, Long, TotL, Tot, TotS, Cnt, Find, Range, PlB, Same, Over, CntF. No condition. -/
import Derived.Test.YtkilblnlplfknaaGreatDoorS2
import Derived.StillTailTactics
import Derived.Still
import Derived.Maps.OwnOps
import Derived.Maps.OwnSet
import Derived.Maps.Views
import Derived.Deep.QuietTactic
import Derived.BigQuiet
import Derived.Lib.Bytes
import Derived.ChangeKeysEq
import Derived.Deep.RegionWith
import Derived.Deep.RegionHeld3
section
/- Comparing two books by an order: the reference's. -/
namespace Go.Proofs.YtkilblnlplfknaaGreatDoor
open Go.RowKit Go.Proofs.YtkilblnlplfknaaGreatDoorW.PrintWords Go.Proofs.YtkilblnlplfknaaGreatDoorW.PrintMore
set_option linter.unusedVariables false
set_option linter.unusedSimpArgs false
set_option maxRecDepth 100000

structure ArrAt (w : World) (n : Nat) (x y z : Int) : Prop where
  c0 : w.cell? ⟨n, 0, none⟩ = some (.int .i64 x)
  c1 : w.cell? ⟨n, 1, none⟩ = some (.int .i64 y)
  c2 : w.cell? ⟨n, 2, none⟩ = some (.int .i64 z)
theorem ArrAt.lt {w : World} {n : Nat} {x y z : Int} (h : ArrAt w n x y z) : n < w.heap.size := World.block_lt_of_cell? w ⟨n, 0, none⟩ h.c0
theorem ArrAt.below {w w1 : World} {n : Nat} {x y z : Int} (h : ArrAt w n x y z) (hb : Below w.heap.size w w1) : ArrAt w1 n x y z :=
  ⟨(hb.cell (p := ⟨n, 0, none⟩) h.lt).trans h.c0, (hb.cell (p := ⟨n, 1, none⟩) h.lt).trans h.c1, (hb.cell (p := ⟨n, 2, none⟩) h.lt).trans h.c2⟩
theorem ArrAt.box (w : World) (x y z : Int) (t : TypeId) : ArrAt (w.alloc (.cells #[.int .i64 x, .int .i64 y, .int .i64 z] t)) w.heap.size x y z :=
  ⟨(blk_cell (blk_new w _) 0).trans rfl, (blk_cell (blk_new w _) 1).trans rfl, (blk_cell (blk_new w _) 2).trans rfl⟩
def OrdOk (L : List Int) : Prop := ∀ x ∈ L, I8 x ∧ x ≠ 0
theorem sgn_eq {x : Int} {a b : Bk} (h0 : num0 (absF x) a = num0 (absF x) b) (h1 : num1 (absF x) a = num1 (absF x) b) (h2 : num2 (absF x) a = num2 (absF x) b) : sgnCmp x a b = 0 := by
  have : fldCmp (absF x) a b = 0 := by unfold fldCmp cmp3; rw [if_pos h0, if_pos h1, cmpI_eq h2]
  unfold sgnCmp
  rw [this]
  split <;> rfl
def sg (x u v : Int) : Int := if decide (u < v) = decide (0 < x) then -1 else 1
theorem sg_ne (x u v : Int) : sg x u v ≠ 0 := by unfold sg; split <;> decide
theorem sg_of {x u v : Int} (hx : x ≠ 0) (h : u ≠ v) : (if x < 0 then -cmpI u v else cmpI u v) = sg x u v := by
  unfold sg
  by_cases h1 : u < v
  · rw [cmpI_lt h1]
    by_cases h2 : 0 < x
    · rw [if_neg (by omega)]; simp [h1, h2]
    · rw [if_pos (by omega)]; simp [h1, h2]
  · rw [cmpI_gt (by omega)]
    by_cases h2 : 0 < x
    · rw [if_neg (by omega)]; simp [h1, h2]
    · rw [if_pos (by omega)]; simp [h1, h2]
theorem sgn_0 {x : Int} {a b : Bk} (hx : x ≠ 0) (h0 : num0 (absF x) a ≠ num0 (absF x) b) : sgnCmp x a b = sg x (num0 (absF x) a) (num0 (absF x) b) := by
  have : fldCmp (absF x) a b = cmpI (num0 (absF x) a) (num0 (absF x) b) := by unfold fldCmp cmp3; rw [if_neg h0]
  unfold sgnCmp
  rw [this]
  exact sg_of hx h0
theorem sgn_1 {x : Int} {a b : Bk} (hx : x ≠ 0) (h0 : num0 (absF x) a = num0 (absF x) b) (h1 : num1 (absF x) a ≠ num1 (absF x) b) : sgnCmp x a b = sg x (num1 (absF x) a) (num1 (absF x) b) := by
  have : fldCmp (absF x) a b = cmpI (num1 (absF x) a) (num1 (absF x) b) := by unfold fldCmp cmp3; rw [if_pos h0, if_neg h1]
  unfold sgnCmp
  rw [this]
  exact sg_of hx h1
theorem sgn_2 {x : Int} {a b : Bk} (hx : x ≠ 0) (h0 : num0 (absF x) a = num0 (absF x) b) (h1 : num1 (absF x) a = num1 (absF x) b) (h2 : num2 (absF x) a ≠ num2 (absF x) b) : sgnCmp x a b = sg x (num2 (absF x) a) (num2 (absF x) b) := by
  have : fldCmp (absF x) a b = cmpI (num2 (absF x) a) (num2 (absF x) b) := by unfold fldCmp cmp3; rw [if_pos h0, if_pos h1]
  unfold sgnCmp
  rw [this]
  exact sg_of hx h2
theorem sg_t {x u v : Int} (h : (decide (u < v) == decide (0 < x)) = true) : sg x u v = -1 := by unfold sg; rw [if_pos (by simpa using h)]
theorem sg_f {x u v : Int} (h : (decide (u < v) == decide (0 < x)) = false) : sg x u v = 1 := by unfold sg; rw [if_neg (by simpa using h)]
set_option maxHeartbeats 8000000 in
theorem l01Compare_c (A : Option Addr) (c : Nat) (L : List Int) (pa pb : Addr) (a b : Bk) (hoa : a.ok) (hob : b.ok) (w : World) (hL : (Kd.int .i8).C w A L.length L) (hk : OrdOk L) (ha : BkAt w pa a) (hb : BkAt w pb b) :
    Calls Tryz.prog 55 #[.slice A L.length c, .pointer (some pa), .pointer (some pb)] w (Ret w (.int .i64 (cmpBy L a b))) := by
  have hm := Kd.C_max hL
  have HL := Aside0.mk hL
  have HKK := Aside0.mk hk
  have HA := Aside0.mk ha
  have HB := Aside0.mk hb
  have HNA := Aside0.mk (fun f W h => l01Numbers_c f a hoa pa W h)
  have HNB := Aside0.mk (fun f W h => l01Numbers_c f b hob pb W h)
  simp only [nums] at HNA HNB
  clear hL hk ha hb hoa hob
  go_enter Tryz.func55, Tryz.ntmps55
  go_wp2
  go_loopg [7] L.length (fun gk v wr => ∃ k : Nat, k + gk = L.length ∧ v = .int .i64 k ∧ Aside0 (cmpBy (L.drop k) a b = cmpBy L a b) ∧ Aside0 (Below w.heap.size w wr))
  case atStart => exact ⟨0, by omega, rfl, ⟨by simp⟩, ⟨Below.refl _ _⟩⟩
  case round =>
    obtain ⟨k, hk, rfl, hp, hb⟩ := hrel
    have HK := Aside0.mk hk
    by_cases hlt : k < L.length
    · obtain ⟨ad, x, rfl, hx, hc⟩ := at_int' (Kd.C_below HL.out hb.out) k (by omega)
      have HF := Aside0.mk (l01Field_c x (HKK.out x (mem_of hx.out)).1)
      have HX0 := Aside0.mk (HKK.out x (mem_of hx.out)).2
      clear hk
      have i0 : (0 : Int) ≤ (k : Int) := by omega
      have i1 : (k : Int) < (L.length : Int) := by omega
      go_wp2_with fail
      refine (HF.out _).mono ?_; rintro _ w1 ⟨rfl, rfl⟩
      go_wp2_with fail
      refine (HNA.out _ _ (HA.out.below hb.out)).mono ?_; rintro _ w1 ⟨rfl, hb1⟩
      have HB1 := Aside0.mk (bstep hb.out hb1)
      clear hb1 hc
      go_wp2_with fail
      have HC1 := Aside0.mk (ArrAt.box w1 (num0 (absF x) a) (num1 (absF x) a) (num2 (absF x) a) 45)
      have HB2 := Aside0.mk (balloc HB1.out (.cells #[.int .i64 (num0 (absF x) a), .int .i64 (num1 (absF x) a), .int .i64 (num2 (absF x) a)] 45))
      generalize World.alloc w1 _ = w2 at HC1 HB2 ⊢
      refine (HNB.out _ _ (HB.out.below HB2.out)).mono ?_; rintro _ w3 ⟨rfl, hb3⟩
      have HB3 := Aside0.mk (bstep HB2.out hb3)
      have HC3 := Aside0.mk (HC1.out.below hb3)
      clear hb3
      go_wp2_with fail
      have HC4 := Aside0.mk (HC3.out.below (balloc (Below.refl _ _) (.cells #[.int .i64 (num0 (absF x) b), .int .i64 (num1 (absF x) b), .int .i64 (num2 (absF x) b)] 45)))
      have HD4 := Aside0.mk (ArrAt.box w3 (num0 (absF x) b) (num1 (absF x) b) (num2 (absF x) b) 45)
      have HB4 := Aside0.mk (balloc HB3.out (.cells #[.int .i64 (num0 (absF x) b), .int .i64 (num1 (absF x) b), .int .i64 (num2 (absF x) b)] 45))
      generalize World.alloc w3 _ = w4 at HC4 HD4 HB4 ⊢
      obtain ⟨ad', x', e', hx', hc4⟩ := at_int' (Kd.C_below HL.out HB4.out) k (by omega)
      injection e' with e'
      subst e'
      have hxx := hx'.out
      rw [hx.out] at hxx
      injection hxx with hxx
      subst hxx
      clear hx'
      obtain ⟨c0, c1, c2⟩ := HC4.out
      obtain ⟨d0, d1, d2⟩ := HD4.out
      clear HC1 HC3 HC4 HD4 HB1 HB2 HB3
      generalize w1.heap.size = n9 at c0 c1 c2 ⊢
      generalize w3.heap.size = n10 at d0 d1 d2 ⊢
      clear w1 w2 w3
      have h0 := @sgn_0 x a b HX0.out
      have h1 := @sgn_1 x a b HX0.out
      have h2 := @sgn_2 x a b HX0.out
      have h3 := @sgn_eq x a b
      generalize num0 (absF x) a = x0 at c0 h0 h1 h2 h3 ⊢
      generalize num1 (absF x) a = x1 at c1 h1 h2 h3 ⊢
      generalize num2 (absF x) a = x2 at c2 h2 h3 ⊢
      generalize num0 (absF x) b = y0 at d0 h0 h1 h2 h3 ⊢
      generalize num1 (absF x) b = y1 at d1 h1 h2 h3 ⊢
      generalize num2 (absF x) b = y2 at d2 h2 h3 ⊢
      by_cases e0 : x0 = y0
      · by_cases e1 : x1 = y1
        · by_cases e2 : x2 = y2
          · have HR := Aside0.mk (show cmpBy (L.drop (k + 1)) a b = cmpBy L a b by rw [← hp.out, cmpBy_eq hx.out (h3 e0 e1 e2)])
            have q0 : (x0 == y0) = true := by simpa using e0
            have q1 : (x1 == y1) = true := by simpa using e1
            have q2 : (x2 == y2) = true := by simpa using e2
            clear h0 h1 h2 h3 e0 e1 e2
            refine wp_loop_rounds 4 ?_
            iterate 3 (rw [rounds_succ]; go_wp2_with fail; go_quiet (fail); go_wp2)
            rw [rounds_succ]
            go_wp2_with fail
            go_roundg (gk - 1)
            case measure => have := HK.out; omega
            case rel => exact ⟨k + 1, by have := HK.out; omega, by go_num, HR, ⟨by repeat (first | exact HB4.out | refine bdrewN ?_ _)⟩⟩
          · have HR := Aside0.mk (show cmpBy L a b = sg x x2 y2 by rw [← hp.out, cmpBy_ne hx.out (by rw [h2 e0 e1 e2]; exact sg_ne _ _ _), h2 e0 e1 e2])
            have q0 : (x0 == y0) = true := by simpa using e0
            have q1 : (x1 == y1) = true := by simpa using e1
            have q2 : (x2 == y2) = false := by simpa using e2
            clear h0 h1 h2 h3 e0 e1 e2
            refine wp_loop_rounds 3 ?_
            iterate 2 (rw [rounds_succ]; go_wp2_with fail; go_quiet (fail); go_wp2)
            rw [rounds_succ]
            go_wp2_with fail
            go_quiet (fail)
            go_wp2
            go_quiet (fail)
            go_wp2
            all_goals first
              | (go_ret; exact ⟨ret_int (by rw [HR.out]; exact (sg_t ‹_›).symm), by repeat (first | exact HB4.out | refine bdrewN ?_ _)⟩)
              | (go_ret; exact ⟨ret_int (by rw [HR.out]; exact (sg_f ‹_›).symm), by repeat (first | exact HB4.out | refine bdrewN ?_ _)⟩)
        · have HR := Aside0.mk (show cmpBy L a b = sg x x1 y1 by rw [← hp.out, cmpBy_ne hx.out (by rw [h1 e0 e1]; exact sg_ne _ _ _), h1 e0 e1])
          have q0 : (x0 == y0) = true := by simpa using e0
          have q1 : (x1 == y1) = false := by simpa using e1
          clear h0 h1 h2 h3 e0 e1
          refine wp_loop_rounds 2 ?_
          iterate 1 (rw [rounds_succ]; go_wp2_with fail; go_quiet (fail); go_wp2)
          rw [rounds_succ]
          go_wp2_with fail
          go_quiet (fail)
          go_wp2
          go_quiet (fail)
          go_wp2
          all_goals first
            | (go_ret; exact ⟨ret_int (by rw [HR.out]; exact (sg_t ‹_›).symm), by repeat (first | exact HB4.out | refine bdrewN ?_ _)⟩)
            | (go_ret; exact ⟨ret_int (by rw [HR.out]; exact (sg_f ‹_›).symm), by repeat (first | exact HB4.out | refine bdrewN ?_ _)⟩)
      · have HR := Aside0.mk (show cmpBy L a b = sg x x0 y0 by rw [← hp.out, cmpBy_ne hx.out (by rw [h0 e0]; exact sg_ne _ _ _), h0 e0])
        have q0 : (x0 == y0) = false := by simpa using e0
        clear h0 h1 h2 h3 e0
        refine wp_loop_rounds 1 ?_
        rw [rounds_succ]
        go_wp2_with fail
        go_quiet (fail)
        go_wp2
        go_quiet (fail)
        go_wp2
        all_goals first
          | (go_ret; exact ⟨ret_int (by rw [HR.out]; exact (sg_t ‹_›).symm), by repeat (first | exact HB4.out | refine bdrewN ?_ _)⟩)
          | (go_ret; exact ⟨ret_int (by rw [HR.out]; exact (sg_f ‹_›).symm), by repeat (first | exact HB4.out | refine bdrewN ?_ _)⟩)
    · have HR := Aside0.mk (show cmpBy L a b = 0 by rw [← hp.out, List.drop_eq_nil_of_le (by omega)]; rfl)
      clear hk
      go_wp2
      go_ret
      exact ⟨ret_int HR.out.symm, hb.out⟩
end Go.Proofs.YtkilblnlplfknaaGreatDoor
end
section
/- Sets kept as maps to bools: the look-up of a bool, and what such a map holds. No condition. -/
namespace Go.Proofs.YtkilblnlplfknaaGreatDoor
open Go.Maps (Keyed IsMap setOf)
set_option linter.unusedVariables false
set_option linter.unusedSimpArgs false
theorem plainElem_bool_inv {H : Type} {P : Program} {e : TypeId} (he : P.underlying e = some .bool) {v : Value} {z : DataW H × List MemPlace} (h : plainElem P e v = some z) : ∃ c, v = .bool c ∧ z = (.lit (.bool c), []) := by
  unfold plainElem at h
  rw [he] at h
  cases v <;> simp at h
  exact ⟨_, rfl, h.symm⟩
/-- 'm[k]' at bools: some c, of which 'hat' says what it is. -/
theorem wpList_lookup_own_bool {H : Type} {P : Program} (w : World) {ops : Array Oper} {rest : List Oper} {o : Oper} {a : Act} {Q : Exit → Act → World → Prop}
    (hg : o.guard = none) (m x : Operand) (t : TypeId) (hop : o.op = Op.lookup t m x false)
    (k e : TypeId) (K : Keyed P k) (ht : P.underlying t = some (.map k e)) (he : P.underlying e = some .bool) (hz : (zeroValue e).run P w = .ok (.bool false) w) (b n : Nat) (D : DataW H)
    (hm : a.eval m = .map (some b)) (hown : w.ownsMap P k (plainElem P e) b n D) (key : Value) (kl : Lit) (hx : a.eval x = key) (hkey : keyOf P k key = some kl)
    (hK : ∀ c : Bool, D.atKey kl (.lit (.bool false)) = .lit (.bool c) → wpList P ops Q rest (a.put o.dst (.bool c)) w) :
    wpList P ops Q (o :: rest) a w := by
  refine wpList_plain hg fun K' hK' => ?_
  obtain ⟨v, ps, hrun, hv⟩ := hown.lookup K ht hz (plainElem_bool he false) hkey
  obtain ⟨c, rfl, hc⟩ := plainElem_bool_inv he hv
  simp only [Prod.mk.injEq] at hc
  unfold Oper.wp
  simp [execOp, hop, hm, hx, hrun, Result.andThen]
  exact hK' _ _ (hK c hc.1)
/-- 'm[k]' at bools, as an equation on the operation's run. -/
theorem lookup_bool {H : Type} {P : Program} {w : World} {t k e : TypeId} {b n : Nat} {D : DataW H} (h : w.ownsMap P k (plainElem P e) b n D) (K : Keyed P k) (ht : P.underlying t = some (.map k e)) (he : P.underlying e = some .bool) (hz : (zeroValue e).run P w = .ok (.bool false) w)
    {key : Value} {kl : Lit} (hkey : keyOf P k key = some kl) {c : Bool} (hat : D.atKey kl (.lit (.bool false)) = .lit (.bool c)) : (Instr.lookup t (.map (some b)) key false).run P w = .ok (.bool c) w := by
  obtain ⟨v, ps, hrun, hv⟩ := h.lookup K ht hz (plainElem_bool he false) hkey
  obtain ⟨c', rfl, hc⟩ := plainElem_bool_inv he hv
  simp only [Prod.mk.injEq] at hc
  rw [hat] at hc
  have h1 := hc.1
  injection h1 with h1
  injection h1 with h1
  rw [hrun, h1]
/-- A set of whole numbers as such a map. -/
def setI (q : IntKind) (xs : List Int) : DataW Unit := setOf (.lit (.bool true)) (xs.map (Lit.int q))
theorem setI_snoc (q : IntKind) (xs : List Int) (x : Int) : setI q (xs ++ [x]) = (setI q xs).put (.int q x) (.lit (.bool true)) := by
  unfold setI; rw [List.map_append, List.map_cons, List.map_nil, Maps.setOf_snoc]
theorem setI_map (q : IntKind) (xs : List Int) : IsMap (setI q xs) := by
  unfold setI
  exact (Maps.tidy_setOf _ _ (by intro x hx; obtain ⟨n, _, rfl⟩ := List.mem_map.1 hx; trivial)).isMap
theorem setI_at (q : IntKind) (x : Int) : ∀ (n : Nat) (xs : List Int), xs.length = n → (setI q xs).atKey (.int q x) (.lit (.bool false)) = .lit (.bool (decide (x ∈ xs))) := by
  intro n
  induction n with
  | zero => intro xs h; rw [List.eq_nil_of_length_eq_zero h]; rfl
  | succ n ih =>
    intro xs h
    obtain ⟨ys, y, rfl⟩ : ∃ T y, xs = T ++ [y] := by
      have hne : xs ≠ [] := by intro h'; rw [h'] at h; simp at h
      exact ⟨xs.dropLast, xs.getLast hne, (List.dropLast_concat_getLast hne).symm⟩
    have hl : ys.length = n := by simpa using h
    rw [setI_snoc]
    by_cases e : x = y
    · subst e
      rw [Maps.atKey_put_same (setI_map q ys) (k := .int q x) (show WideAt.IsKeyLit (.int q x) from trivial)]
      simp
    · rw [Maps.atKey_put_other (by intro h'; injection h' with _ h'; exact e h'), ih ys hl]
      simp [e]
theorem setI_size (q : IntKind) (xs : List Int) : Maps.size (setI q xs) = ((xs.map (Lit.int q)).foldl Maps.addKey []).length := Maps.size_setOf _ _ (by intro x hx; obtain ⟨n, _, rfl⟩ := List.mem_map.1 hx; trivial)
end Go.Proofs.YtkilblnlplfknaaGreatDoor
end
section
/- A list is an order: the program's ValidOrder and the reference's. -/
namespace Go.Proofs.YtkilblnlplfknaaGreatDoor
open Go.RowKit Go.Proofs.YtkilblnlplfknaaGreatDoorW.PrintWords Go.Proofs.YtkilblnlplfknaaGreatDoorW.PrintMore
set_option linter.unusedVariables false
set_option linter.unusedSimpArgs false
set_option maxRecDepth 100000

open Go.Maps (Keyed)
def ordAt (L : List Int) (k : Nat) : Bool := match L[k]? with
  | some x => inR (absF x) 1 6 && !decide (absF x ∈ (L.take k).map absF)
  | none => true
def vOrd (L : List Int) : Bool := decide (0 < L.length) && (List.range L.length).all (ordAt L)
theorem ordAt_of {L : List Int} {k : Nat} {x : Int} (h : L[k]? = some x) : ordAt L k = (inR (absF x) 1 6 && !decide (absF x ∈ (L.take k).map absF)) := by unfold ordAt; rw [h]
theorem vOrd_hit {L : List Int} {k : Nat} (hk : k < L.length) (h : ordAt L k = false) : vOrd L = false := by
  unfold vOrd
  rw [Bool.and_eq_false_iff]
  right
  rw [List.all_eq_false]
  exact ⟨k, List.mem_range.2 hk, by simp [h]⟩
theorem vOrd_all {L : List Int} (h : ∀ i, i < L.length → ordAt L i = true) : vOrd L = decide (0 < L.length) := by
  unfold vOrd
  rw [List.all_eq_true.2 (fun i hi => h i (List.mem_range.1 hi)), Bool.and_true]
theorem ord_next {L : List Int} {k : Nat} (h : ∀ i, i < k → ordAt L i = true) (hk : ordAt L k = true) : ∀ i, i < k + 1 → ordAt L i = true := by
  intro i hi
  by_cases e : i = k
  · rw [e]; exact hk
  · exact h i (by omega)
/-- Different numbers from 1 to n are at most n. -/
theorem few_of : ∀ (n : Nat) (M : List Int), M.Pairwise (fun x y => x ≠ y) → (∀ x, x ∈ M → 1 ≤ x ∧ x ≤ (n : Int)) → M.length ≤ n := by
  intro n
  induction n with
  | zero =>
    intro M _ h
    cases M with
    | nil => exact Nat.le_refl _
    | cons x M => have := h x List.mem_cons_self; omega
  | succ n ih =>
    intro M hp h
    have h1 := ih (M.filter (fun x => decide (x ≠ ((n + 1 : Nat) : Int)))) (hp.filter _) (fun x hx => by
      have h2 := List.mem_filter.1 hx
      have h3 := h x h2.1
      have h4 : x ≠ ((n + 1 : Nat) : Int) := by simpa using h2.2
      omega)
    have h5 : ∀ (M : List Int), M.Pairwise (fun x y => x ≠ y) → M.length ≤ (M.filter (fun x => decide (x ≠ ((n + 1 : Nat) : Int)))).length + 1 := by
      intro M hp
      induction M with
      | nil => simp
      | cons x M ih2 =>
        have hp2 := List.pairwise_cons.1 hp
        by_cases e : x = ((n + 1 : Nat) : Int)
        · rw [List.filter_cons_of_neg (by simp [e])]
          have : M.filter (fun x => decide (x ≠ ((n + 1 : Nat) : Int))) = M := by
            rw [List.filter_eq_self]
            intro y hy
            have := hp2.1 y hy
            simp only [ne_eq, decide_eq_true_eq]
            intro h6
            exact this (by rw [e, h6])
          rw [this]
          simp
        · rw [List.filter_cons_of_pos (by simpa using e)]
          have := ih2 hp2.2
          simp only [List.length_cons]
          omega
    have := h5 M hp
    omega
theorem ord_few {L : List Int} (h : ∀ i, i < L.length → ordAt L i = true) : L.length ≤ 6 := by
  have h1 := few_of 6 (L.map absF) (by
    rw [List.pairwise_iff_getElem]
    intro i j hi hj hij
    simp only [List.length_map] at hi hj
    have := h j hj
    rw [ordAt_of (List.getElem?_eq_getElem hj)] at this
    simp only [Bool.and_eq_true, Bool.not_eq_true', decide_eq_false_iff_not] at this
    rw [List.getElem_map, List.getElem_map]
    intro e
    exact this.2 (by rw [← e]; exact List.mem_map.2 ⟨L[i], List.mem_take_iff_getElem.2 ⟨i, by omega, rfl⟩, rfl⟩)) (by
    intro x hx
    obtain ⟨y, hy, rfl⟩ := List.mem_map.1 hx
    obtain ⟨i, hi, rfl⟩ := List.mem_iff_getElem.1 hy
    have := h i hi
    rw [ordAt_of (List.getElem?_eq_getElem hi)] at this
    simp only [Bool.and_eq_true] at this
    have := inR_iff.1 this.1
    omega)
  rwa [List.length_map] at h1
theorem ord_end {L : List Int} (h : ∀ i, i < L.length → ordAt L i = true) : inR (L.length : Int) 1 6 = vOrd L := by
  have := ord_few h
  rw [vOrd_all h, Bool.eq_iff_iff, inR_iff, decide_eq_true_eq]
  omega
theorem within8_c (n lo hi : Int) (w : World) : Calls Tryz.prog 86 #[.int .i8 n, .int .i8 lo, .int .i8 hi] w (RetS w (.bool (inR n lo hi))) := by
  go_enter Tryz.func86, Tryz.ntmps86
  go_wp2
  all_goals (go_ret; refine ⟨ret_bool ?_, rfl⟩; unfold inR; rw [Bool.eq_iff_iff]; simp; omega)
theorem withinI_c (n lo hi : Int) (w : World) : Calls Tryz.prog 87 #[.int .i64 n, .int .i64 lo, .int .i64 hi] w (RetS w (.bool (inR n lo hi))) := by
  go_enter Tryz.func87, Tryz.ntmps87
  go_wp2
  all_goals (go_ret; refine ⟨ret_bool ?_, rfl⟩; unfold inR; rw [Bool.eq_iff_iff]; simp; omega)
theorem key8 : Keyed Tryz.prog 57 := Maps.int_keyed Tryz.underlying57
theorem zeroB (w : World) : (zeroValue 4).run Tryz.prog w = .ok (.bool false) w := by kernel_rfl
theorem absF_i8 {x : Int} (h : I8 x) : I8 (absF x) := by unfold I8 absF at *; (repeat' split) <;> omega
theorem wf_i8 {x : Int} (h : I8 x) : (Lit.int .i8 x).wf = true := WalkArith.wf_i8 h
set_option maxHeartbeats 4000000 in
theorem ValidOrder_c (A : Option Addr) (c : Nat) (L : List Int) (w : World) (hL : (Kd.int .i8).C w A L.length L) (hk : ∀ x ∈ L, I8 x) :
    Calls Tryz.prog 65 #[.slice A L.length c] w (Ret w (.bool (vOrd L))) := by
  have hm := Kd.C_max hL
  have HL := Aside0.mk hL
  have HKK := Aside0.mk hk
  clear hL hk
  have hmm := @run_makeMap Tryz.prog
  go_enter Tryz.func65, Tryz.ntmps65
  go_wp2
  clear hmm
  go_loopg [9] L.length (fun gk v wr => ∃ k : Nat, k + gk = L.length ∧ v = .int .i64 k ∧ Aside0 (∀ i, i < k → ordAt L i = true) ∧ Aside0 (wr.ownsMap Tryz.prog 57 (plainElem Tryz.prog 4) w.heap.size k (setI .i8 ((L.take k).map absF))) ∧ Aside0 (Below w.heap.size w wr))
  case atStart => exact ⟨0, by omega, rfl, ⟨fun i h => absurd h (by omega)⟩, ⟨World.ownsMap_made _ _ _ _⟩, ⟨balloc (Below.refl _ _) _⟩⟩
  case round =>
    obtain ⟨k, hk, rfl, hp, hM, hb⟩ := hrel
    have HK := Aside0.mk hk
    by_cases hlt : k < L.length
    · obtain ⟨ad, x, rfl, hx, hc⟩ := at_int' (Kd.C_below HL.out hb.out) k (by omega)
      have hI := HKK.out x (mem_of hx.out)
      have HF := Aside0.mk (field_c x hI)
      have HO := Aside0.mk (ordAt_of hx.out)
      have HKY := Aside0.mk (Maps.keyOf_int_mk Tryz.underlying57 (wf_i8 (absF_i8 hI)))
      have HSN := Aside0.mk (setI_snoc .i8 ((L.take k).map absF) (absF x))
      have HTS := Aside0.mk (take_snoc hx.out)
      have HAT := Aside0.mk (setI_at .i8 (absF x) _ ((L.take k).map absF) rfl)
      clear hk hI
      obtain ⟨f, hf⟩ : ∃ f, absF x = f := ⟨_, rfl⟩
      rw [hf] at HF HO HKY HSN HAT
      have HFE := Aside0.mk hf
      clear hf
      cases h1 : inR f 1 6
      · have HR := Aside0.mk (vOrd_hit hlt (by rw [HO.out, h1]; rfl))
        have HW := Aside0.mk (fun W => within8_c f 1 6 W)
        rw [h1] at HW
        clear h1
        go_wp2_with (first | (go_at_call 83; refine (HF.out _).mono ?_; rintro _ w1 ⟨rfl, rfl⟩) | (go_at_call 86; refine (HW.out _).mono ?_; rintro _ w1 ⟨rfl, rfl⟩))
        go_ret
        exact ⟨ret_bool HR.out.symm, hb.out⟩
      · have HW := Aside0.mk (fun W => within8_c f 1 6 W)
        rw [h1] at HW
        by_cases h2 : f ∈ (L.take k).map absF
        · have HR := Aside0.mk (vOrd_hit hlt (by rw [HO.out, h1, decide_eq_true h2]; rfl))
          have HAT2 := Aside0.mk (show (setI .i8 ((L.take k).map absF)).atKey (.int .i8 f) (.lit (.bool false)) = .lit (.bool true) by rw [HAT.out, decide_eq_true h2])
          have hrun := lookup_bool hM.out key8 Tryz.underlying108 Tryz.underlying4 (zeroB _) HKY.out HAT2.out
          clear h1 h2
          go_wp2_with (first | (go_at_call 83; refine (HF.out _).mono ?_; rintro _ w1 ⟨rfl, rfl⟩) | (go_at_call 86; refine (HW.out _).mono ?_; rintro _ w1 ⟨rfl, rfl⟩))
          go_ret
          exact ⟨ret_bool HR.out.symm, hb.out⟩
        · have HR := Aside0.mk (ord_next hp.out (by rw [HO.out, h1, decide_eq_false h2]; rfl))
          have HAT2 := Aside0.mk (show (setI .i8 ((L.take k).map absF)).atKey (.int .i8 f) (.lit (.bool false)) = .lit (.bool false) by rw [HAT.out, decide_eq_false h2])
          have hrun := lookup_bool hM.out key8 Tryz.underlying108 Tryz.underlying4 (zeroB _) HKY.out HAT2.out
          clear h1 h2
          go_wp2_with (first | (go_at_call 83; refine (HF.out _).mono ?_; rintro _ w1 ⟨rfl, rfl⟩) | (go_at_call 86; refine (HW.out _).mono ?_; rintro _ w1 ⟨rfl, rfl⟩) | (at_mapUpdate; refine wpList_mapUpdate_own _ rfl _ _ _ 108 rfl 57 4 key8 Tryz.underlying108 _ w.heap.size k _ rfl hM.out (by unfold maxLen; omega) _ _ _ rfl rfl HKY.out _ [] (plainElem_bool Tryz.underlying4 true) ?_; intro w2 hM2 hg2; have HM2 := Aside0.mk hM2; have HG2 := Aside0.mk hg2; clear hM2 hg2))
          go_roundg (gk - 1)
          case measure => have := HK.out; omega
          case rel => exact ⟨k + 1, by have := HK.out; omega, by go_num, HR, ⟨by rw [HTS.out, List.map_append, List.map_cons, List.map_nil, HFE.out, HSN.out]; exact HM2.out⟩, ⟨hb.out.grown HG2.out hb.out.size (fun j hj => by injection hj with hj; omega)⟩⟩
    · have HR := Aside0.mk (ord_end (L := L) (fun i hi => hp.out i (by omega)))
      have HW := Aside0.mk (fun W => withinI_c (L.length : Int) 1 6 W)
      rw [HR.out] at HW
      clear hk
      go_wp2_with (go_at_call 87; refine (HW.out _).mono ?_; rintro _ w1 ⟨rfl, rfl⟩)
      go_ret
      exact ⟨rfl, hb.out⟩
/-- Seven bools: which numbers are among M. -/
def bsA (M : List Int) : Array Value := #[.bool (decide ((0 : Int) ∈ M)), .bool (decide ((1 : Int) ∈ M)), .bool (decide ((2 : Int) ∈ M)), .bool (decide ((3 : Int) ∈ M)), .bool (decide ((4 : Int) ∈ M)), .bool (decide ((5 : Int) ∈ M)), .bool (decide ((6 : Int) ∈ M))]
theorem bsA_at (M : List Int) {q : Nat} (h : q < 7) : (bsA M)[q]? = some (.bool (decide ((q : Int) ∈ M))) := by
  match q, h with
  | 0, _ => rfl
  | 1, _ => rfl
  | 2, _ => rfl
  | 3, _ => rfl
  | 4, _ => rfl
  | 5, _ => rfl
  | 6, _ => rfl
theorem bsA_set (M : List Int) {q : Nat} (h : q < 7) : (bsA M).setIfInBounds q (.bool true) = bsA (M ++ [(q : Int)]) := by
  match q, h with
  | 0, _ => simp [bsA, List.mem_append]
  | 1, _ => simp [bsA, List.mem_append]
  | 2, _ => simp [bsA, List.mem_append]
  | 3, _ => simp [bsA, List.mem_append]
  | 4, _ => simp [bsA, List.mem_append]
  | 5, _ => simp [bsA, List.mem_append]
  | 6, _ => simp [bsA, List.mem_append]
end Go.Proofs.YtkilblnlplfknaaGreatDoor
end
section
/- Comparing two books in the usual order: the program's CompareBooks and the reference's. -/
namespace Go.Proofs.YtkilblnlplfknaaGreatDoor
open Go.RowKit Go.Proofs.YtkilblnlplfknaaGreatDoorW.PrintWords Go.Proofs.YtkilblnlplfknaaGreatDoorW.PrintMore
set_option linter.unusedVariables false
set_option linter.unusedSimpArgs false
set_option maxRecDepth 100000

theorem usualL_ord : OrdOk usualL := by
  intro x hx
  refine ⟨usualL_ok x hx, ?_⟩
  simp only [usualL, List.mem_cons, List.not_mem_nil, or_false] at hx
  omega
set_option maxHeartbeats 2000000 in
theorem l01Usual_c (pa pb : Addr) (a b : Bk) (hoa : a.ok) (hob : b.ok) (w : World) (ha : BkAt w pa a) (hb : BkAt w pb b) :
    Calls Tryz.prog 62 #[.pointer (some pa), .pointer (some pb)] w (Ret w (.int .i64 (cmpU a b))) := by
  have hu := three_C (w.alloc (.cells #[.int .i8 1, .int .i8 2, .int .i8 3] 57)) w.heap.size 0 1 2 3 ((blk_cell (blk_new w _) 0).trans rfl) ((blk_cell (blk_new w _) 1).trans rfl) ((blk_cell (blk_new w _) 2).trans rfl)
  have HX := Aside0.mk (l01Compare_c (some ⟨w.heap.size, 0, none⟩) 3 usualL pa pb a b hoa hob _ hu usualL_ord (ha.below (balloc (Below.refl _ _) _)) (hb.below (balloc (Below.refl _ _) _)))
  clear hu ha hb hoa hob
  go_enter Tryz.func62, Tryz.ntmps62
  go_wp2_with fail
  refine HX.out.mono ?_; rintro _ w1 ⟨rfl, hb1⟩
  go_wp2_with fail
  go_ret
  exact ⟨rfl, bstep (balloc (Below.refl _ _) _) hb1⟩
set_option maxHeartbeats 2000000 in
theorem CompareBooks_c (a b : Bk) (w : World) : Calls Tryz.prog 12 #[a.val, b.val] w (Ret w (.int .i64 (cmpU a b))) := by
  obtain ⟨hbw, ha, hb⟩ := box_two w a b _ (Below.refl _ _)
  have HX := Aside0.mk (fun W => compare_c a b W)
  have HBW := Aside0.mk hbw
  obtain ⟨p0, p1, p2, p3, p4, p5, p6, p7⟩ := ha
  obtain ⟨q0, q1, q2, q3, q4, q5, q6, q7⟩ := hb
  clear hbw
  simp only [Bk.val] at HX ⊢
  go_enter Tryz.func12, Tryz.ntmps12
  go_wp2_with fail
  refine (HX.out _).mono ?_; rintro _ w1 ⟨rfl, hb1⟩
  go_wp2_with fail
  go_ret
  exact ⟨rfl, bstep HBW.out hb1⟩
end Go.Proofs.YtkilblnlplfknaaGreatDoor
end
section
/- A list of books is valid: the program's ValidBooks and the reference's. -/
namespace Go.Proofs.YtkilblnlplfknaaGreatDoor
open Go.RowKit Go.Proofs.YtkilblnlplfknaaGreatDoorW.PrintWords Go.Proofs.YtkilblnlplfknaaGreatDoorW.PrintMore
set_option linter.unusedVariables false
set_option linter.unusedSimpArgs false
set_option maxRecDepth 100000

def vBooks (L : List Bk) : Bool := decide (L.length ≤ 60) && L.all vBook
def OkL (L : List Bk) : Prop := ∀ b, b ∈ L → b.ok
theorem ValidBooks_c (A : Option Addr) (c : Nat) (L : List Bk) (w : World) (hL : kBk.C w A L.length L) :
    Calls Tryz.prog 36 #[.slice A L.length c] w (Ret w (.bool (vBooks L))) := by
  have HA := Aside0.mk (areAllBk_c A c L 23 #[] vBook w hL ⟨_, Tryz.func23, rfl, rfl⟩ (fun W _ x _ => ValidBook_c x W))
  have hm := Kd.C_max hL
  clear hL
  by_cases h : L.length ≤ 60
  · have HV := Aside0.mk (show vBooks L = L.all vBook by simp [vBooks, h])
    go_enter Tryz.func36, Tryz.ntmps36
    go_wp2_with (go_at_call 63; refine HA.out.mono ?_; rintro _ w1 ⟨rfl, hb1⟩)
    all_goals (go_ret; exact ⟨ret_bool HV.out.symm, hb1⟩)
  · have HV := Aside0.mk (show vBooks L = false by simp [vBooks, h])
    go_enter Tryz.func36, Tryz.ntmps36
    go_wp2
    all_goals (go_ret; exact ⟨ret_bool HV.out.symm, Below.refl _ _⟩)

theorem all_hit {α : Type} {L : List α} {p : α → Bool} {k : Nat} {x : α} (hx : L[k]? = some x) (hp : p x = false) : L.all p = false := by
  rw [Bool.eq_false_iff]
  intro h
  have h2 := List.all_eq_true.1 h x (mem_of hx)
  rw [hp] at h2
  cases h2
theorem all_end {α : Type} {L : List α} {p : α → Bool} {k : Nat} (h : ∀ x, x ∈ L.take k → p x = true) (hk : L.length ≤ k) : L.all p = true := by
  rw [List.take_of_length_le hk] at h
  exact List.all_eq_true.2 h
theorem all_next {α : Type} {L : List α} {p : α → Bool} {k : Nat} {x : α} (h : ∀ x, x ∈ L.take k → p x = true) (hx : L[k]? = some x) (hp : p x = true) : ∀ x, x ∈ L.take (k + 1) → p x = true := by
  intro y hy
  rw [take_snoc hx] at hy
  rcases List.mem_append.1 hy with hy | hy
  · exact h y hy
  · rw [List.mem_singleton.1 hy]; exact hp

theorem l01Ok_c (A : Option Addr) (c : Nat) (L : List Bk) (hok : OkL L) (w : World) (hL : kBk.C w A L.length L) :
    Calls Tryz.prog 33 #[.slice A L.length c] w (Ret w (.bool (vBooks L))) := by
  have hm := Kd.C_max hL
  have HL := Aside0.mk hL
  have HO := Aside0.mk hok
  clear hL hok
  go_enter Tryz.func33, Tryz.ntmps33
  go_wp2
  go_loopg [3] L.length (fun gk v wr => ∃ k : Nat, k + gk = L.length ∧ v = .int .i64 k ∧ Aside0 (∀ x, x ∈ L.take k → vBook x = true) ∧ Aside0 (Below w.heap.size w wr))
  case atStart => exact ⟨0, by omega, rfl, ⟨by simp⟩, ⟨Below.refl _ _⟩⟩
  case round =>
    obtain ⟨k, hk, rfl, hp, hb⟩ := hrel
    have HK := Aside0.mk hk
    by_cases hlt : k < L.length
    · obtain ⟨ad, b, rfl, hbk, ha⟩ := at_bk' (Kd.C_below HL.out hb.out) k (by omega)
      have HA := Aside0.mk (l01Book_c b (HO.out b (mem_of hbk.out)) _ _ ha)
      clear hk ha
      cases hvb : vBook b
      · have HV := Aside0.mk (all_hit hbk.out hvb)
        rw [hvb] at HA
        clear hvb
        go_wp2_with (go_at_call 32; refine HA.out.mono ?_; rintro _ w1 ⟨rfl, hb1⟩)
        all_goals (go_ret; exact ⟨ret_bool (by simp [vBooks, HV.out]), bstep hb.out hb1⟩)
      · have HV := Aside0.mk (all_next hp.out hbk.out hvb)
        rw [hvb] at HA
        clear hvb
        go_wp2_with (go_at_call 32; refine HA.out.mono ?_; rintro _ w1 ⟨rfl, hb1⟩)
        go_roundg (gk - 1)
        case measure => have := HK.out; omega
        case rel => exact ⟨k + 1, by have := HK.out; omega, by go_num, HV, ⟨bstep hb.out hb1⟩⟩
    · have HV := Aside0.mk (all_end hp.out (by omega))
      clear hk
      go_wp2
      all_goals (go_ret; exact ⟨ret_bool (by simp [vBooks, HV.out]; omega), hb.out⟩)
theorem vBooks_len {L : List Bk} (h : vBooks L = true) : L.length ≤ 60 := by
  unfold vBooks at h
  simp only [Bool.and_eq_true, decide_eq_true_eq] at h
  exact h.1
theorem ret_two {a b c d : Int} (h : a = c) (k : b = d) : Ending.returned (.tuple #[.int .i64 a, .int .i64 b]) = .returned (.tuple #[.int .i64 c, .int .i64 d]) := by rw [h, k]
theorem ret_three {a b c d e f : Int} (h : a = d) (k : b = e) (l : c = f) : Ending.returned (.tuple #[.int .i64 a, .int .i64 b, .int .i64 c]) = .returned (.tuple #[.int .i64 d, .int .i64 e, .int .i64 f]) := by rw [h, k, l]
end Go.Proofs.YtkilblnlplfknaaGreatDoor
end
section
/- Rows of books in the usual order: the program's and the reference's isSorted, l01Out. -/
namespace Go.Proofs.YtkilblnlplfknaaGreatDoor
open Go.RowKit Go.Proofs.YtkilblnlplfknaaGreatDoorW.PrintWords Go.Proofs.YtkilblnlplfknaaGreatDoorW.PrintMore
set_option linter.unusedVariables false
set_option linter.unusedSimpArgs false
set_option maxRecDepth 100000

/-- Element i is out: below the one before it. -/
def outAt (L : List Bk) (i : Nat) : Bool := match L[i]?, L[i - 1]? with
  | some x, some y => decide (cmpU x y < 0)
  | _, _ => false
theorem outAt_of {L : List Bk} {i : Nat} {x y : Bk} (h : L[i]? = some x) (h' : L[i - 1]? = some y) : outAt L i = decide (cmpU x y < 0) := by
  unfold outAt; rw [h, h']
/-- The first element from k on that is out, -1 if none is. -/
def outFrom (L : List Bk) : Nat → Nat → Int
  | _, 0 => -1
  | k, g + 1 => if outAt L k then (k : Int) else outFrom L (k + 1) g
def outOf (L : List Bk) : Int := outFrom L 1 (L.length - 1)
theorem outFrom_hit {L : List Bk} {k g : Nat} (h : outAt L k = true) (hg : 0 < g) : outFrom L k g = (k : Int) := by
  match g, hg with
  | g + 1, _ => rw [outFrom, if_pos h]
theorem outFrom_next {L : List Bk} {k g : Nat} (h : outAt L k = false) (hg : 0 < g) : outFrom L k g = outFrom L (k + 1) (g - 1) := by
  match g, hg with
  | g + 1, _ => rw [outFrom, if_neg (by simp [h])]; rfl
theorem outFrom_none (L : List Bk) (k : Nat) : outFrom L k 0 = -1 := rfl
set_option maxHeartbeats 4000000 in
theorem l01Out_c (A : Option Addr) (c : Nat) (L : List Bk) (w : World) (hL : kBk.C w A L.length L) (hok : ∀ b ∈ L, b.ok) : Calls Tryz.prog 34 #[.slice A L.length c] w (Ret w (.int .i64 (outOf L))) := by
  have hm := Kd.C_max hL
  have HL := Aside0.mk hL
  have HO := Aside0.mk hok
  clear hL hok
  go_enter Tryz.func34, Tryz.ntmps34
  go_wp2
  go_loopg [3] (L.length - 1) (fun gk v wr => ∃ j : Nat, v = .int .i64 ((j : Int) + 1) ∧ Aside0 (gk = L.length - 1 - j ∧ outFrom L (j + 1) (L.length - 1 - j) = outOf L) ∧ Aside0 (Below w.heap.size w wr))
  case atStart => exact ⟨0, rfl, ⟨by omega, rfl⟩, ⟨Below.refl _ _⟩⟩
  case round =>
    obtain ⟨k, rfl, hk, hb⟩ := hrel
    by_cases hlt : k + 1 < L.length
    · obtain ⟨ad, b, rfl, hbk, hx⟩ := at_bk' (Kd.C_below HL.out hb.out) (k + 1) hlt
      obtain ⟨ad', b', e', hbk', hy⟩ := at_bk' (Kd.C_below HL.out hb.out) k (by omega)
      injection e' with e'
      subst e'
      have HX := Aside0.mk (l01Usual_c _ _ b b' (HO.out b (mem_of hbk.out)) (HO.out b' (mem_of hbk'.out)) _ (hx.below (bdrew (Below.refl _ _))) (hy.below (bdrew (Below.refl _ _))))
      have HA := Aside0.mk (outAt_of hbk.out hbk'.out)
      clear hx hy
      have i0 : (0 : Int) ≤ (k : Int) := by omega
      have i1 : (k : Int) + 1 < (L.length : Int) := by omega
      have i2 : (k : Int) < (L.length : Int) := by omega
      have i3 : ((k : Int) + 1).toNat = k + 1 := by omega
      have i4 : (0 : Int) ≤ (k : Int) + 1 := by omega
      have iw : IntKind.i64.wrap (k : Int) = (k : Int) := by simp only [IntKind.wrap, IntKind.bits, IntKind.signed, Bool.true_and, decide_eq_true_eq, ge_iff_le]; split <;> omega
      go_wp2_with fail
      go_still_tail 7, (by kernel_rfl)
      go_wp2_with fail
      refine HX.out.mono ?_; rintro _ w1 ⟨rfl, hb1⟩
      have HB1 := Aside0.mk (bstep (bdrew hb.out) hb1)
      clear hb1 HX
      by_cases ho : cmpU b b' < 0
      · have HR := Aside0.mk (show outOf L = ((k + 1 : Nat) : Int) by rw [← hk.out.2]; exact outFrom_hit (by rw [HA.out]; simpa using ho) (by omega))
        go_wp2
        go_ret
        exact ⟨ret_int (by rw [HR.out]; omega), HB1.out⟩
      · have HR := Aside0.mk (show outFrom L (k + 1 + 1) (L.length - 1 - (k + 1)) = outOf L by
          rw [← hk.out.2, outFrom_next (k := k + 1) (by rw [HA.out]; simpa using ho) (by omega)]
          congr 1)
        go_wp2
        go_roundg (gk - 1)
        case measure => have := hk.out.1; omega
        case rel => exact ⟨k + 1, by go_num, ⟨by have := hk.out.1; omega, HR.out⟩, HB1⟩
    · have HR := Aside0.mk (show outOf L = -1 by rw [← hk.out.2, show L.length - 1 - k = 0 by omega]; rfl)
      have i3 : (L.length : Int) ≤ (k : Int) + 1 := by omega
      go_wp2
      go_ret
      exact ⟨ret_int HR.out.symm, hb.out⟩
end Go.Proofs.YtkilblnlplfknaaGreatDoor
end
section
/- Runs of rows of books: the plain laws. -/
namespace Go.Proofs.YtkilblnlplfknaaGreatDoor
open Go.RowKit Go.Proofs.YtkilblnlplfknaaGreatDoorW.PrintWords Go.Proofs.YtkilblnlplfknaaGreatDoorW.PrintMore
set_option linter.unusedVariables false
set_option linter.unusedSimpArgs false
set_option maxRecDepth 100000

def startAt (L : List Bk) (i : Nat) : Bool := decide (i = 0) || outAt L i
def runsN (L : List Bk) (k : Nat) : List Int := ((List.range k).filter (startAt L)).map Int.ofNat
def runsL (L : List Bk) : List Int := runsN L L.length
theorem runsN_yes {L : List Bk} {k : Nat} (h : startAt L k = true) : runsN L (k + 1) = runsN L k ++ [(k : Int)] := by
  unfold runsN
  rw [List.range_succ, List.filter_append, List.filter_cons_of_pos h, List.map_append]
  rfl
theorem runsN_no {L : List Bk} {k : Nat} (h : startAt L k = false) : runsN L (k + 1) = runsN L k := by
  unfold runsN
  rw [List.range_succ, List.filter_append, List.filter_cons_of_neg (by simp [h])]
  simp
theorem runsN_len (L : List Bk) (k : Nat) : (runsN L k).length ≤ k := by
  unfold runsN
  rw [List.length_map]
  exact Nat.le_trans (List.length_filter_le _ _) (by simp)
theorem runsN_mem {L : List Bk} {k : Nat} {x : Int} (h : x ∈ runsN L k) : 0 ≤ x ∧ x < (k : Int) := by
  unfold runsN at h
  obtain ⟨n, hn, rfl⟩ := List.mem_map.1 h
  have := List.mem_range.1 (List.mem_filter.1 hn).1
  simp only [Int.ofNat_eq_natCast]
  omega
theorem outFrom_filter (L : List Bk) : ∀ (g k : Nat), outFrom L k g = match (List.range' k g).filter (outAt L) with
    | [] => -1
    | x :: _ => (x : Int) := by
  intro g
  induction g with
  | zero => intro k; rfl
  | succ g ih =>
    intro k
    rw [outFrom, List.range'_succ]
    cases h : outAt L k with
    | true => rw [if_pos rfl, List.filter_cons_of_pos h]
    | false => rw [if_neg (by decide), List.filter_cons_of_neg (by simp [h])]; exact ih (k + 1)
theorem runsL_cons {L : List Bk} (h : 0 < L.length) : runsL L = 0 :: ((List.range' 1 (L.length - 1)).filter (outAt L)).map Int.ofNat := by
  unfold runsL runsN
  obtain ⟨n, hn⟩ : ∃ n, L.length = n + 1 := ⟨L.length - 1, by omega⟩
  rw [hn, List.range_eq_range', List.range'_succ, List.filter_cons_of_pos (by rfl), List.map_cons]
  simp only [Nat.zero_add, Nat.add_sub_cancel]
  congr 2
  apply List.filter_congr
  intro x hx
  have := (List.mem_range'_1.1 hx).1
  unfold startAt
  rw [decide_eq_false (by omega), Bool.false_or]
theorem runsL_nil {L : List Bk} (h : L.length = 0) : runsL L = [] := by
  unfold runsL runsN
  rw [h]; rfl
theorem runs_few {L : List Bk} : (runsL L).length < 2 ↔ outOf L < 0 := by
  rcases Nat.eq_zero_or_pos L.length with h | h
  · rw [runsL_nil h]
    unfold outOf
    rw [h]
    simp [outFrom]
  · rw [runsL_cons h]
    unfold outOf
    rw [outFrom_filter]
    cases (List.range' 1 (L.length - 1)).filter (outAt L) with
    | nil => simp
    | cons x r => simp; omega
theorem runs_second {L : List Bk} (h : ¬ outOf L < 0) : (runsL L)[1]? = some (outOf L) := by
  have h2 : ¬ (runsL L).length < 2 := fun e => h (runs_few.1 e)
  rcases Nat.eq_zero_or_pos L.length with h0 | h0
  · rw [runsL_nil h0] at h2; simp at h2
  · rw [runsL_cons h0] at h2 ⊢
    unfold outOf
    rw [outFrom_filter]
    revert h2
    cases (List.range' 1 (L.length - 1)).filter (outAt L) with
    | nil => simp
    | cons x r => simp
/-- How many of M come behind b. -/
def lowIn (b : Bk) (M : List Bk) : Nat := (M.filter (fun a => decide (cmpU b a < 0))).length
theorem lowIn_yes {b a : Bk} {M : List Bk} {k : Nat} (h : M[k]? = some a) (hc : cmpU b a < 0) : lowIn b (M.take (k + 1)) = lowIn b (M.take k) + 1 := by
  unfold lowIn
  rw [take_snoc h, List.filter_append, List.length_append, List.filter_cons_of_pos (by simpa using hc)]
  rfl
theorem lowIn_no {b a : Bk} {M : List Bk} {k : Nat} (h : M[k]? = some a) (hc : ¬ cmpU b a < 0) : lowIn b (M.take (k + 1)) = lowIn b (M.take k) := by
  unfold lowIn
  rw [take_snoc h, List.filter_append, List.length_append, List.filter_cons_of_neg (by simpa using hc)]
  rfl
theorem lowIn_le (b : Bk) (M : List Bk) : lowIn b M ≤ M.length := List.length_filter_le _ _
/-- The pairs out of order among the first k. -/
def pairsN (L : List Bk) : Nat → Nat
  | 0 => 0
  | k + 1 => pairsN L k + (match L[k]? with
    | some b => lowIn b (L.take k)
    | none => 0)
theorem pairsN_next {L : List Bk} {k : Nat} {b : Bk} (h : L[k]? = some b) : pairsN L (k + 1) = pairsN L k + lowIn b (L.take k) := by rw [pairsN, h]
theorem pairsN_le (L : List Bk) (k : Nat) : pairsN L k ≤ L.length * k := by
  induction k with
  | zero => exact Nat.zero_le _
  | succ k ih =>
    rw [pairsN, Nat.mul_succ]
    have : (match L[k]? with
      | some b => lowIn b (L.take k)
      | none => 0) ≤ L.length := by
      cases L[k]? with
      | none => exact Nat.zero_le _
      | some b => exact Nat.le_trans (lowIn_le _ _) (List.length_take_le' _ _)
    omega
def pairsL (L : List Bk) : Int := (pairsN L L.length : Nat)
/-- The longest of the gaps among the first k + 1 numbers. -/
def gapN (own : List Int) : Nat → Int × Int
  | 0 => (0, 0)
  | k + 1 => match own[k]?, own[k + 1]? with
    | some a, some b => if (gapN own k).2 < b - a then (a, b - a) else gapN own k
    | _, _ => gapN own k
theorem gapN_next {own : List Int} {k : Nat} {a b : Int} (h : own[k]? = some a) (h' : own[k + 1]? = some b) : gapN own (k + 1) = if (gapN own k).2 < b - a then (a, b - a) else gapN own k := by
  rw [gapN, h, h']
def longest (L : List Bk) : Int × Int := gapN (runsL L ++ [(L.length : Int)]) (runsL L).length
theorem gapN_bound {own : List Int} {m : Int} (h : ∀ x ∈ own, 0 ≤ x ∧ x ≤ m) (hm : 0 ≤ m) (k : Nat) : 0 ≤ (gapN own k).1 ∧ (gapN own k).1 ≤ m ∧ 0 ≤ (gapN own k).2 ∧ (gapN own k).2 ≤ m := by
  induction k with
  | zero => simp [gapN, hm]
  | succ k ih =>
    rw [gapN]
    cases h1 : own[k]? with
    | none => exact ih
    | some a =>
      cases h2 : own[k + 1]? with
      | none => exact ih
      | some b =>
        simp only
        have ha := h a (List.mem_of_getElem? h1)
        have hb := h b (List.mem_of_getElem? h2)
        split
        · simp only; omega
        · exact ih
end Go.Proofs.YtkilblnlplfknaaGreatDoor
end
section
/- Rows of books in the usual order: the program's isSorted. -/
namespace Go.Proofs.YtkilblnlplfknaaGreatDoor
open Go.RowKit Go.Proofs.YtkilblnlplfknaaGreatDoorW.PrintWords Go.Proofs.YtkilblnlplfknaaGreatDoorW.PrintMore
set_option linter.unusedVariables false
set_option linter.unusedSimpArgs false
set_option maxRecDepth 100000

theorem outFrom_neg (L : List Bk) : ∀ (g k : Nat), outFrom L k g < 0 ↔ ∀ j, k ≤ j → j < k + g → outAt L j = false := by
  intro g
  induction g with
  | zero => intro k; simp only [outFrom]; exact ⟨fun _ j h1 h2 => absurd h2 (by omega), fun _ => by decide⟩
  | succ g ih =>
    intro k
    rw [outFrom]
    cases h : outAt L k with
    | true =>
      rw [if_pos rfl]
      refine ⟨fun h' => absurd h' (by omega), fun h' => ?_⟩
      rw [h' k (by omega) (by omega)] at h
      cases h
    | false =>
      rw [if_neg (by decide), ih (k + 1)]
      refine ⟨fun h' j h1 h2 => ?_, fun h' j h1 h2 => h' j (by omega) (by omega)⟩
      by_cases e : j = k
      · rw [e]; exact h
      · exact h' j (by omega) (by omega)
def isS (L : List Bk) : Bool := decide (outOf L < 0)
theorem isS_iff (L : List Bk) : isS L = true ↔ ∀ j, 1 ≤ j → j < L.length → outAt L j = false := by
  unfold isS outOf
  rw [decide_eq_true_eq, outFrom_neg]
  exact ⟨fun h j h1 h2 => h j h1 (by omega), fun h j h1 h2 => h j h1 (by omega)⟩
set_option maxHeartbeats 4000000 in
theorem isSortedFunc_c (A : Option Addr) (c : Nat) (L : List Bk) (f : FuncId) (cap : Array Value) (w : World) (hL : kBk.C w A L.length L) (hfn : Fun Tryz.prog f)
    (hf : ∀ W x y, Calls Tryz.prog f (#[x.val, y.val] ++ cap) W (Ret W (.int .i64 (cmpU x y)))) :
    Calls Tryz.prog 64 #[.slice A L.length c, .func (.func f) #[] cap] w (Ret w (.bool (isS L))) := by
  have hm := Kd.C_max hL
  have HL := Aside0.mk hL
  have HF := Aside0.mk hf
  have hcf := hfn.run
  clear hL hf hfn
  simp only [Bk.val] at HF
  go_enter Tryz.func64, Tryz.ntmps64
  go_wp2
  have iw : IntKind.i64.wrap ((L.length : Int) - 1) = (L.length : Int) - 1 := by simp only [IntKind.wrap, IntKind.bits, IntKind.signed, Bool.true_and, decide_eq_true_eq, ge_iff_le]; split <;> omega
  go_loopg [5] L.length (fun gk v wr => ∃ v0 : Int, v = .int .i64 v0 ∧ Aside0 (v0 = (gk : Int) - 1 ∧ gk ≤ L.length ∧ ∀ j, gk ≤ j → j < L.length → outAt L j = false) ∧ Aside0 (Below w.heap.size w wr))
  case atStart => exact ⟨(L.length : Int) - 1, by first | rw [iw] | rfl, ⟨rfl, by omega, fun j h1 h2 => absurd h2 (by omega)⟩, ⟨Below.refl _ _⟩⟩
  case round =>
    clear iw
    obtain ⟨v0, rfl, hp, hb⟩ := hrel
    by_cases hlt : 2 ≤ gk
    · obtain ⟨k, hgk⟩ : ∃ k, gk = k + 2 := ⟨gk - 2, by omega⟩
      have hv : v0 = (k : Int) + 1 := by have := hp.out.1; omega
      have hle : k + 1 < L.length := by have := hp.out.2.1; omega
      have HG := Aside0.mk hgk
      clear hgk
      subst hv
      obtain ⟨ad, b, rfl, hbk, x0, x1, x2, x3, x4, x5, x6, x7⟩ := at_bk (Kd.C_below HL.out hb.out) (k + 1) hle
      obtain ⟨ad', b', e', hbk', y0, y1, y2, y3, y4, y5, y6, y7⟩ := at_bk (Kd.C_below HL.out hb.out) k (by omega)
      injection e' with e'
      subst e'
      have HA := Aside0.mk (outAt_of hbk.out hbk'.out)
      have HFF := Aside0.mk (fun W => HF.out W b b')
      have i0 : (0 : Int) ≤ (k : Int) := by omega
      have i1 : (k : Int) + 1 < (L.length : Int) := by omega
      have i2 : (k : Int) < (L.length : Int) := by omega
      have i3 : ((k : Int) + 1).toNat = k + 1 := by omega
      have i4 : (0 : Int) ≤ (k : Int) + 1 := by omega
      have i5 : (0 : Int) < (k : Int) + 1 := by omega
      have iw : IntKind.i64.wrap (k : Int) = (k : Int) := by simp only [IntKind.wrap, IntKind.bits, IntKind.signed, Bool.true_and, decide_eq_true_eq, ge_iff_le]; split <;> omega
      go_wp2_with fail
      go_still_tail 10, (by kernel_rfl)
      go_wp2_with fail
      refine (HFF.out _).mono ?_; rintro _ w1 ⟨rfl, hb1⟩
      have HB1 := Aside0.mk (bstep (bdrew hb.out) hb1)
      clear hb1 HFF x0 x1 x2 x3 x4 x5 x6 x7 y0 y1 y2 y3 y4 y5 y6 y7
      by_cases ho : cmpU b b' < 0
      · have HR := Aside0.mk (show isS L = false from Bool.eq_false_iff.2 fun h => by
          have := (isS_iff L).1 h (k + 1) (by omega) hle
          rw [HA.out] at this; simp at this; omega)
        go_wp2
        go_ret
        exact ⟨ret_bool HR.out.symm, HB1.out⟩
      · have HR := Aside0.mk (show ∀ j, k + 1 ≤ j → j < L.length → outAt L j = false from fun j h1 h2 => by
          by_cases e : j = k + 1
          · rw [e, HA.out]; simpa using ho
          · exact hp.out.2.2 j (by have := HG.out; omega) h2)
        go_wp2
        go_roundg (gk - 1)
        case measure => have := HG.out; omega
        case rel => exact ⟨(k : Int), by go_num, ⟨by have := HG.out; omega, by have := HG.out; omega, fun j h1 h2 => HR.out j (by have := HG.out; omega) h2⟩, HB1⟩
    · have HR := Aside0.mk (show isS L = true from (isS_iff L).2 fun j h1 h2 => hp.out.2.2 j (by omega) h2)
      have i3 : v0 ≤ 0 := by have := hp.out.1; omega
      go_wp2
      go_ret
      exact ⟨ret_bool HR.out.symm, hb.out⟩
theorem isSorted_c (A : Option Addr) (c : Nat) (L : List Bk) (w : World) (hL : kBk.C w A L.length L) : Calls Tryz.prog 37 #[.slice A L.length c] w (Ret w (.bool (isS L))) := by
  have HX := Aside0.mk (isSortedFunc_c A c L 31 #[] w hL ⟨_, Tryz.func31, rfl, rfl⟩ (fun W x y => compare_c x y W))
  clear hL
  go_enter Tryz.func37, Tryz.ntmps37
  go_wp2_with fail
  refine HX.out.mono ?_; rintro _ w1 ⟨rfl, hb1⟩
  go_wp2_with fail
  go_ret
  exact ⟨rfl, hb1⟩
def eV (L : List Bk) : Int := if vBooks L then 0 else 1
theorem eV_t {L : List Bk} (h : vBooks L = true) : eV L = 0 := by unfold eV; rw [if_pos h]
theorem eV_f {L : List Bk} (h : vBooks L = false) : eV L = 1 := by unfold eV; rw [h]; rfl
theorem IsSorted_c (A : Option Addr) (c : Nat) (L : List Bk) (w : World) (hL : kBk.C w A L.length L) : Calls Tryz.prog 10 #[.slice A L.length c] w (Ret w (.tuple #[.bool (vBooks L && isS L), .int .i64 (eV L)])) := by
  have HL := Aside0.mk hL
  have HV := Aside0.mk (ValidBooks_c A c L w hL)
  clear hL
  cases h : vBooks L
  · rw [h] at HV
    have HE := Aside0.mk (eV_f h)
    clear h
    go_enter Tryz.func10, Tryz.ntmps10
    go_wp2_with fail
    refine HV.out.mono ?_; rintro _ w1 ⟨rfl, hb1⟩
    go_wp2_with fail
    exact bodyPost_ret (v := .tuple #[.bool false, .int .i64 1]) (by simp [results, Tryz.results10, go_sem]) rfl ⟨by rw [HE.out]; rfl, hb1⟩
  · rw [h] at HV
    have HE := Aside0.mk (eV_t h)
    clear h
    go_enter Tryz.func10, Tryz.ntmps10
    go_wp2_with fail
    refine HV.out.mono ?_; rintro _ w1 ⟨rfl, hb1⟩
    go_wp2_with fail
    refine (isSorted_c A c L _ (Kd.C_below HL.out hb1)).mono ?_; rintro _ w2 ⟨rfl, hb2⟩
    go_wp2_with fail
    exact bodyPost_ret (v := .tuple #[.bool (isS L), .int .i64 0]) (by simp [results, Tryz.results10, go_sem]) rfl ⟨by rw [HE.out, Bool.true_and], bstep hb1 hb2⟩
end Go.Proofs.YtkilblnlplfknaaGreatDoor
end
section
/- Runs of rows of books: the program's and the reference's. -/
namespace Go.Proofs.YtkilblnlplfknaaGreatDoor
open Go.RowKit Go.Proofs.YtkilblnlplfknaaGreatDoorW.PrintWords Go.Proofs.YtkilblnlplfknaaGreatDoorW.PrintMore
set_option linter.unusedVariables false
set_option linter.unusedSimpArgs false
set_option maxRecDepth 100000

end Go.Proofs.YtkilblnlplfknaaGreatDoor
end
section
/- FirstOut, RunsOf: the program's and the reference's. -/
namespace Go.Proofs.YtkilblnlplfknaaGreatDoor
open Go.RowKit Go.Proofs.YtkilblnlplfknaaGreatDoorW.PrintWords Go.Proofs.YtkilblnlplfknaaGreatDoorW.PrintMore
set_option linter.unusedVariables false
set_option linter.unusedSimpArgs false
set_option maxRecDepth 100000

def firstV (L : List Bk) : Int := if vBooks L = true then (if outOf L < 0 then 0 else outOf L) else 0
def firstE (L : List Bk) : Int := if vBooks L = true then (if outOf L < 0 then 6 else 0) else 1
def runsV (L : List Bk) : List Int := if vBooks L = true then runsL L else []
theorem runsV_len (L : List Bk) : (runsV L).length ≤ 2097152 := by
  unfold runsV
  split
  · rename_i h
    have := runsN_len L L.length
    have := vBooks_len h
    unfold runsL
    omega
  · simp
end Go.Proofs.YtkilblnlplfknaaGreatDoor
end
section
/- Comparing two books by an order: the program's CompareBy and the reference's. -/
namespace Go.Proofs.YtkilblnlplfknaaGreatDoor
open Go.RowKit Go.Proofs.YtkilblnlplfknaaGreatDoorW.PrintWords Go.Proofs.YtkilblnlplfknaaGreatDoorW.PrintMore
set_option linter.unusedVariables false
set_option linter.unusedSimpArgs false
set_option maxRecDepth 100000

theorem ordOk_of {L : List Int} (hk : ∀ x ∈ L, I8 x) (h : vOrd L = true) : OrdOk L := by
  intro x hx
  refine ⟨hk x hx, fun e => ?_⟩
  obtain ⟨i, hi, rfl⟩ := List.mem_iff_getElem.1 hx
  unfold vOrd at h
  simp only [Bool.and_eq_true, List.all_eq_true] at h
  have := h.2 i (List.mem_range.2 hi)
  rw [ordAt_of (List.getElem?_eq_getElem hi)] at this
  simp only [Bool.and_eq_true] at this
  have h1 := inR_iff.1 this.1
  rw [e] at h1
  exact absurd h1.1 (by decide)
def okBy (L : List Int) (a b : Bk) : Bool := vOrd L && (vBook a && vBook b)
def cbV (L : List Int) (a b : Bk) : Int := if okBy L a b = true then cmpBy L a b else 0
def cbE (L : List Int) (a b : Bk) : Int := if okBy L a b = true then 0 else 1
theorem cb_bad {L : List Int} {a b : Bk} (h : okBy L a b = false) : cbV L a b = 0 ∧ cbE L a b = 1 := by unfold cbV cbE; rw [h]; exact ⟨rfl, rfl⟩
theorem cb_ok {L : List Int} {a b : Bk} (h : okBy L a b = true) : cbV L a b = cmpBy L a b ∧ cbE L a b = 0 := by unfold cbV cbE; rw [h]; exact ⟨rfl, rfl⟩
end Go.Proofs.YtkilblnlplfknaaGreatDoor
end
section
/- Places in sorted rows of books: the plain laws. -/
namespace Go.Proofs.YtkilblnlplfknaaGreatDoor
open Go.RowKit Go.Proofs.YtkilblnlplfknaaGreatDoorW.PrintWords Go.Proofs.YtkilblnlplfknaaGreatDoorW.PrintMore
set_option linter.unusedVariables false
set_option linter.unusedSimpArgs false
set_option maxRecDepth 100000

theorem outAt_lt (L : List Bk) (j : Nat) : outAt L j = Srt.ltAt ltU L j (j - 1) := by
  unfold outAt Srt.ltAt
  cases L[j]? <;> cases L[j - 1]? <;> rfl
theorem seg_of_adj {α : Type} {lt : α → α → Bool} (hw : Srt.Wk lt) {L : List α} (h : ∀ j, 1 ≤ j → j < L.length → Srt.ltAt lt L j (j - 1) = false) : Srt.Seg lt L 0 L.length := by
  intro i j _ hij hj
  obtain ⟨d, rfl⟩ : ∃ d, j = i + 1 + d := ⟨j - i - 1, by omega⟩
  induction d with
  | zero => exact h (i + 1) (by omega) hj
  | succ d ih =>
    have h1 := ih (by omega) (by omega)
    have h2 := h (i + 1 + (d + 1)) (by omega) hj
    exact Srt.ltAt_ntr hw hj (j := i + 1 + d) (by omega) (by omega) h2 h1
theorem isS_up {L : List Bk} (h : isS L = true) : Srt.Up ltU L := by
  refine Srt.seg_all (seg_of_adj ltU_wk fun j h1 h2 => ?_)
  rw [← outAt_lt]
  exact (isS_iff L).1 h j h1 h2
theorem up_isS {L : List Bk} (h : Srt.Up ltU L) : isS L = true := by
  refine (isS_iff L).2 fun j h1 h2 => ?_
  have := Srt.up_seg (A := []) (B := []) h
  simp only [List.nil_append, List.append_nil, List.length_nil, Nat.zero_add] at this
  rw [outAt_lt]
  exact this (j - 1) j (Nat.zero_le _) (by omega) h2
/-- A test that, once it is so, stays so. -/
theorem findIdx_at {α : Type} {L : List α} {p : α → Bool} {k : Nat} (hk : k ≤ L.length) (h1 : ∀ x, x ∈ L.drop k → p x = true) (h2 : ∀ x, x ∈ L.take k → p x = false) : L.findIdx p = k := by
  rcases Nat.lt_or_ge k L.length with h | h
  · rw [List.findIdx_eq h]
    refine ⟨h1 _ ?_, fun j hj => h2 _ (List.mem_take_iff_getElem.2 ⟨j, by omega, rfl⟩)⟩
    rw [List.mem_drop_iff_getElem]
    exact ⟨0, by omega, by simp⟩
  · have : k = L.length := by omega
    subst this
    rw [List.findIdx_eq_length]
    intro x hx
    exact h2 x (by rwa [List.take_length])
theorem idx_of {α : Type} (L : List α) (p : α → Bool) : (if idxF L p < 0 then (L.length : Int) else idxF L p) = (L.findIdx p : Nat) := by
  unfold idxF
  by_cases h : L.any p = true
  · rw [if_pos h, if_neg (by omega)]
  · rw [if_neg h, if_pos (by omega)]
    congr 1
    symm
    rw [List.findIdx_eq_length]
    intro x hx
    cases e : p x
    · rfl
    · exact absurd (List.any_eq_true.2 ⟨x, hx, e⟩) h
/-- The place of a book in a sorted row. -/
def placeOf (b : Bk) (L : List Bk) : Nat := L.findIdx (ltU b)
theorem placeOf_eq {L : List Bk} {b : Bk} {k : Nat} (hu : Srt.Up ltU L) (hk : k ≤ L.length) (h1 : ∀ x, x ∈ L.drop k → ltU b x = true) (h2 : k = 0 ∨ ∃ y, L[k - 1]? = some y ∧ ltU b y = false) : placeOf b L = k := by
  refine findIdx_at hk h1 fun x hx => ?_
  rcases h2 with h2 | ⟨y, hy, hyb⟩
  · subst h2; simp at hx
  · have hk0 : 0 < k := by
      rcases Nat.eq_zero_or_pos k with e | e
      · subst e; simp at hx
      · exact e
    obtain ⟨i, hi, rfl⟩ := List.mem_take_iff_getElem.1 hx
    have hyl := (List.getElem?_eq_some_iff.1 hy)
    obtain ⟨hl, rfl⟩ := hyl
    by_cases e : i = k - 1
    · subst e; exact hyb
    · have := List.pairwise_iff_getElem.1 hu i (k - 1) (by omega) hl (by omega)
      exact ltU_wk.ntr _ _ _ hyb this
theorem cmpU_class {a b : Bk} (h : ltU b a = false) : a.c ≤ b.c := by
  have e : sgnCmp 1 b a = cmpI b.c a.c := by
    unfold sgnCmp
    rw [if_neg (by decide), show absF 1 = 1 by decide, fldCmp_one (by decide)]
    rfl
  have e2 : cmpU b a = if cmpI b.c a.c = 0 then cmpBy [2, 3] b a else cmpI b.c a.c := by rw [← e]; rfl
  rcases Int.lt_or_le b.c a.c with h3 | h3
  · exfalso
    have h4 : ltU b a = true := by
      unfold ltU
      rw [e2, cmpI_lt h3]
      rfl
    rw [h4] at h; cases h
  · exact h3
/-- Counted from the front, as long as it is so. -/
theorem count_findIdx {L : List Bk} (hu : Srt.Up ltU L) (n : Int) : (L.filter (fun b => decide (b.c < n))).length = L.findIdx (fun b => decide (n ≤ b.c)) := by
  induction L with
  | nil => rfl
  | cons x L ih =>
    have hp := List.pairwise_cons.1 hu
    by_cases h : x.c < n
    · rw [List.filter_cons_of_pos (by simpa using h), List.length_cons, ih hp.2, List.findIdx_cons]
      rw [decide_eq_false (by omega)]; rfl
    · rw [List.filter_cons_of_neg (by simpa using h), List.findIdx_cons, decide_eq_true (by omega)]
      rw [List.filter_eq_nil_iff.2]
      · rfl
      · intro y hy
        have := cmpU_class (hp.1 y hy)
        simp; omega
end Go.Proofs.YtkilblnlplfknaaGreatDoor
end
section
/- Lists of books that have to be valid and sorted: the program's code and the reference's. -/
namespace Go.Proofs.YtkilblnlplfknaaGreatDoor
open Go.RowKit Go.Proofs.YtkilblnlplfknaaGreatDoorW.PrintWords Go.Proofs.YtkilblnlplfknaaGreatDoorW.PrintMore
set_option linter.unusedVariables false
set_option linter.unusedSimpArgs false
set_option maxRecDepth 100000

/-- A list of books as a value: its address, its capacity, its books. -/
structure SlB where
  A : Option Addr
  c : Nat
  L : List Bk
def SlB.val (x : SlB) : Value := .slice x.A x.L.length x.c
def kSl : Kd SlB := Kd.flat (fun x => [x.val]) 1 (fun _ => rfl) (fun x u hu => by
  rw [List.mem_singleton.1 hu]
  rfl)
theorem at_sl {xs : List SlB} {w : World} {A : Option Addr} {n : Nat} (h : kSl.C w A n xs) (i : Nat) (hi : i < n) :
    ∃ ad x, A = some ad ∧ Aside0 (xs[i]? = some x) ∧ w.cell? (ad.add i) = some (.slice x.A x.L.length x.c) := by
  have hl : i < xs.length := by have := Kd.C_len h; omega
  obtain ⟨ad, c, e, hc, hK, hcc⟩ := Kd.C_get h xs[i] i (by omega) (by omega)
  rw [Int.toNat_natCast] at hK hcc
  have hx : xs.getD i xs[i] = xs[i] := by simp [List.getD_eq_getElem?_getD, List.getElem?_eq_getElem hl]
  rw [hx] at hK
  have hK' : c = [xs[i].val] := hK
  subst hK'
  have hcc' : ∀ j u, [xs[i].val][j]? = some u → w.cell? (ad.add (i * 1 + j)) = some u := hcc
  have := hcc' 0 _ rfl
  refine ⟨ad, xs[i], e, ⟨List.getElem?_eq_getElem hl⟩, ?_⟩
  rw [show i * 1 + 0 = i by omega] at this
  exact this

theorem indexFuncSl_c (A : Option Addr) (c : Nat) (L : List SlB) (f : FuncId) (cap : Array Value) (p : SlB → Bool) (w : World)
    (hL : kSl.C w A L.length L) (hfn : Fun Tryz.prog f)
    (hf : ∀ W, Below w.heap.size w W → ∀ x, x ∈ L → Calls Tryz.prog f (#[x.val] ++ cap) W (Ret W (.bool (p x)))) :
    Calls Tryz.prog 97 #[.slice A L.length c, .func (.func f) #[] cap] w (Ret w (.int .i64 (idxF L p))) := by
  have hm := Kd.C_max hL
  have hcf := hfn.run
  have HF := Aside0.mk hf
  have HL := Aside0.mk hL
  clear hf hfn hL
  go_enter Tryz.func97, Tryz.ntmps97
  go_wp2
  go_loopg [8] L.length (fun gk v8 wr => ∃ k : Nat, k + gk = L.length ∧ v8 = .int .i64 k ∧ Aside0 (∀ x, x ∈ L.take k → p x = false) ∧ Aside0 (Below w.heap.size w wr))
  case atStart => exact ⟨0, by omega, rfl, ⟨by simp⟩, ⟨Below.refl _ _⟩⟩
  case round =>
    obtain ⟨k, hk, rfl, hp, hb⟩ := hrel
    have HK := Aside0.mk hk
    by_cases hlt : k < L.length
    · obtain ⟨ad, b, rfl, hbk, hx0⟩ := at_sl (Kd.C_below HL.out hb.out) k (by omega)
      clear hk
      go_wp2_with (refine (HF.out _ hb.out _ (mem_of hbk.out)).mono ?_; rintro _ w1 ⟨rfl, hb1⟩)
      · rename_i hpb
        go_ret
        exact ⟨ret_int (idxF_hit hp.out hbk.out hpb).symm, bstep hb.out hb1⟩
      · rename_i hpb
        go_roundg (gk - 1)
        case measure => have := HK.out; omega
        case rel => exact ⟨k + 1, by have := HK.out; omega, by go_num, ⟨fun y hy => by rw [take_snoc hbk.out] at hy; rcases List.mem_append.1 hy with hy | hy; exact hp.out y hy; rw [List.mem_singleton.1 hy]; exact hpb⟩, ⟨bstep hb.out hb1⟩⟩
    · clear hk
      go_wp2
      go_ret
      refine ⟨ret_int (idxF_none ?_).symm, hb.out⟩
      have hp1 := hp.out
      rw [List.take_of_length_le (by omega)] at hp1
      exact hp1


theorem containsFuncSl_c (A : Option Addr) (c : Nat) (L : List SlB) (f : FuncId) (cap : Array Value) (p : SlB → Bool) (w : World)
    (hL : kSl.C w A L.length L) (hfn : Fun Tryz.prog f)
    (hf : ∀ W, Below w.heap.size w W → ∀ x, x ∈ L → Calls Tryz.prog f (#[x.val] ++ cap) W (Ret W (.bool (p x)))) :
    Calls Tryz.prog 80 #[.slice A L.length c, .func (.func f) #[] cap] w (Ret w (.bool (L.any p))) := by
  have HI := Aside0.mk (indexFuncSl_c A c L f cap p w hL hfn hf)
  clear hL hfn hf
  go_enter Tryz.func80, Tryz.ntmps80
  go_wp2_with (go_at_call 97; refine HI.out.mono ?_; rintro _ w1 ⟨rfl, hb1⟩)
  all_goals (go_ret; exact ⟨ret_bool (idxF_any L p), hb1⟩)


theorem allCloSl_c (x : SlB) (f : FuncId) (cap : Array Value) (g : Nat) (w : World) (r : Bool) (hc : w.cell? ⟨g, 0, none⟩ = some (.func (.func f) #[] cap)) (hg : g < w.heap.size)
    (hf : ∀ W, Below w.heap.size w W → Calls Tryz.prog f (#[x.val] ++ cap) W (Ret W (.bool r))) (hfn : Fun Tryz.prog f) :
    Calls Tryz.prog 81 #[x.val, .pointer (some ⟨g, 0, none⟩)] w (Ret w (.bool (!r))) := by
  have hcf := hfn.run
  have HF := Aside0.mk hf
  have hca : ∀ o, (w.alloc o).cell? ⟨g, 0, none⟩ = some (.func (.func f) #[] cap) := fun o => (World.cell?_alloc_lt w o _ hg).trans hc
  clear hf hfn
  simp only [SlB.val]
  go_enter Tryz.func81, Tryz.ntmps81
  go_wp2_with (refine (HF.out _ (by first | exact Below.refl _ _ | exact balloc (Below.refl _ _) _)).mono ?_; rintro _ w1 ⟨rfl, hb1⟩)
  all_goals (go_ret; exact ⟨rfl, by first | exact hb1 | exact bstep (balloc (Below.refl _ _) _) hb1⟩)
theorem areAllSl_c (A : Option Addr) (c : Nat) (L : List SlB) (f : FuncId) (cap : Array Value) (p : SlB → Bool) (w : World)
    (hL : kSl.C w A L.length L) (hfn : Fun Tryz.prog f)
    (hf : ∀ W, Below w.heap.size w W → ∀ x, x ∈ L → Calls Tryz.prog f (#[x.val] ++ cap) W (Ret W (.bool (p x)))) :
    Calls Tryz.prog 57 #[.slice A L.length c, .func (.func f) #[] cap] w (Ret w (.bool (L.all p))) := by
  have hcl : ∀ W, Below (w.alloc (.cells #[.func (.func f) #[] cap] 68)).heap.size (w.alloc (.cells #[.func (.func f) #[] cap] 68)) W → ∀ x, x ∈ L →
      Calls Tryz.prog 81 (#[x.val] ++ #[.pointer (some ⟨w.heap.size, 0, none⟩)]) W (Ret W (.bool (!(p x)))) := fun W hW x hx => by
    have h0 : W.cell? ⟨w.heap.size, 0, none⟩ = some (.func (.func f) #[] cap) := by
      rw [hW.cell (by simp)]; exact (blk_cell (blk_new w _) 0).trans rfl
    have hbW : Below w.heap.size w W := bstep (balloc (Below.refl _ _) _) hW
    exact allCloSl_c x f cap w.heap.size W (p x) h0 (by have := hW.size; simp at this; omega) (fun W' hW' => hf W' (bstep hbW hW') x hx) hfn
  have HI := Aside0.mk (containsFuncSl_c A c L 81 #[.pointer (some ⟨w.heap.size, 0, none⟩)] (fun x => !(p x)) (w.alloc (.cells #[.func (.func f) #[] cap] 68)) (Kd.C_alloc hL _) ⟨_, Tryz.func81, rfl, rfl⟩ hcl)
  clear hL hfn hf hcl
  go_enter Tryz.func57, Tryz.ntmps57
  go_wp2_with (go_at_call 80; refine HI.out.mono ?_; rintro _ w1 ⟨rfl, hb1⟩)
  all_goals (go_ret; exact ⟨ret_bool (by rw [List.all_eq_not_any_not]), bstep (balloc (Below.refl _ _) _) hb1⟩)

def sCodes (LL : List SlB) : Int := if LL.all (fun x => vBooks x.L) = true then (if LL.all (fun x => isS x.L) = true then 0 else 4) else 1
def sCode (L : List Bk) : Int := if vBooks L = true then (if isS L = true then 0 else 4) else 1
theorem sCodes_one (x : SlB) : sCodes [x] = sCode x.L := by simp [sCodes, sCode]
/-- A box of lists reads as a list of lists. -/
theorem box_Sl (w : World) (xs : List SlB) (hm : xs.length ≤ 9223372036854775807) : kSl.C (w.alloc (.cells (xs.map SlB.val).toArray 24)) (some ⟨w.heap.size, 0, none⟩) xs.length xs := by
  refine ⟨rfl, hm, fun _ => ⟨_, rfl, fun j p hj => ⟨[p.val], rfl, rfl, fun i u hu => ?_⟩⟩⟩
  match i, hu with
  | 0, hu =>
    cases hu
    rw [add_plain, blk_cell (blk_new w _)]
    have : kSl.sz = 1 := rfl
    rw [this]
    simp [hj]
set_option maxHeartbeats 2000000 in
theorem sortedCode_c (A : Option Addr) (c : Nat) (LL : List SlB) (w : World) (hL : kSl.C w A LL.length LL) (hC : ∀ x, x ∈ LL → kBk.C w x.A x.L.length x.L) :
    Calls Tryz.prog 28 #[.slice A LL.length c] w (Ret w (.int .i64 (sCodes LL))) := by
  have HL := Aside0.mk hL
  have HC := Aside0.mk hC
  have HV := Aside0.mk (fun W (hb : Below w.heap.size w W) => areAllSl_c A c LL 36 #[] (fun x => vBooks x.L) W (Kd.C_below hL hb) ⟨_, Tryz.func36, rfl, rfl⟩ (fun W' hW' x hx => ValidBooks_c x.A x.c x.L W' (Kd.C_below (Kd.C_below (hC x hx) hb) hW')))
  have HS := Aside0.mk (fun W (hb : Below w.heap.size w W) => areAllSl_c A c LL 37 #[] (fun x => isS x.L) W (Kd.C_below hL hb) ⟨_, Tryz.func37, rfl, rfl⟩ (fun W' hW' x hx => isSorted_c x.A x.c x.L W' (Kd.C_below (Kd.C_below (hC x hx) hb) hW')))
  clear hL hC
  cases h1 : LL.all (fun x => vBooks x.L)
  · have HR := Aside0.mk (show sCodes LL = 1 by unfold sCodes; rw [h1]; rfl)
    rw [h1] at HV
    clear h1
    go_enter Tryz.func28, Tryz.ntmps28
    go_wp2_with fail
    refine (HV.out _ (Below.refl _ _)).mono ?_; rintro _ w1 ⟨rfl, hb1⟩
    go_wp2_with fail
    go_ret
    exact ⟨ret_int HR.out.symm, hb1⟩
  · rw [h1] at HV
    cases h2 : LL.all (fun x => isS x.L)
    · have HR := Aside0.mk (show sCodes LL = 4 by unfold sCodes; rw [h1, h2]; rfl)
      rw [h2] at HS
      clear h1 h2
      go_enter Tryz.func28, Tryz.ntmps28
      go_wp2_with fail
      refine (HV.out _ (Below.refl _ _)).mono ?_; rintro _ w1 ⟨rfl, hb1⟩
      have HB1 := Aside0.mk hb1
      clear hb1
      go_wp2_with fail
      refine (HS.out _ HB1.out).mono ?_; rintro _ w2 ⟨rfl, hb2⟩
      have HB2 := Aside0.mk (bstep HB1.out hb2)
      clear hb2
      go_wp2_with fail
      go_ret
      exact ⟨ret_int HR.out.symm, HB2.out⟩
    · have HR := Aside0.mk (show sCodes LL = 0 by unfold sCodes; rw [h1, h2]; rfl)
      rw [h2] at HS
      clear h1 h2
      go_enter Tryz.func28, Tryz.ntmps28
      go_wp2_with fail
      refine (HV.out _ (Below.refl _ _)).mono ?_; rintro _ w1 ⟨rfl, hb1⟩
      have HB1 := Aside0.mk hb1
      clear hb1
      go_wp2_with fail
      refine (HS.out _ HB1.out).mono ?_; rintro _ w2 ⟨rfl, hb2⟩
      have HB2 := Aside0.mk (bstep HB1.out hb2)
      clear hb2
      go_wp2_with fail
      go_ret
      exact ⟨ret_int HR.out.symm, HB2.out⟩
/-- One list, in the box of a variadic call. -/
theorem sorted1_c (A : Option Addr) (c : Nat) (L : List Bk) (w : World) (hL : kBk.C w A L.length L) :
    Calls Tryz.prog 28 #[.slice (some ⟨w.heap.size, 0, none⟩) 1 1] (w.alloc (.cells #[.slice A L.length c] 24)) (Ret (w.alloc (.cells #[.slice A L.length c] 24)) (.int .i64 (sCode L))) := by
  have h := sortedCode_c (some ⟨w.heap.size, 0, none⟩) 1 [⟨A, c, L⟩] _ (box_Sl w [⟨A, c, L⟩] (by simp)) (fun x hx => by rw [List.mem_singleton.1 hx]; exact Kd.C_alloc hL _)
  rw [sCodes_one] at h
  exact h
theorem firstOf_c (A : Option Addr) (c : Nat) (L : List Bk) (f : FuncId) (cap : Array Value) (p : Bk → Bool) (w : World) (hL : kBk.C w A L.length L) (hfn : Fun Tryz.prog f)
    (hf : ∀ W, Below w.heap.size w W → ∀ x, x ∈ L → Calls Tryz.prog f (#[x.val] ++ cap) W (Ret W (.bool (p x)))) :
    Calls Tryz.prog 29 #[.slice A L.length c, .func (.func f) #[] cap] w (Ret w (.int .i64 (L.findIdx p : Nat))) := by
  have hm := Kd.C_max hL
  have HI := Aside0.mk (indexFuncBk_c A c L f cap p w hL hfn hf)
  have HE := Aside0.mk (idx_of L p)
  clear hL hfn hf
  go_enter Tryz.func29, Tryz.ntmps29
  go_wp2_with fail
  refine HI.out.mono ?_; rintro _ w1 ⟨rfl, hb1⟩
  generalize idxF L p = o at HE ⊢
  by_cases hf : o < 0
  · rw [if_pos hf] at HE
    go_wp2_with fail
    go_ret
    exact ⟨ret_int HE.out, hb1⟩
  · rw [if_neg hf] at HE
    go_wp2_with fail
    go_ret
    exact ⟨ret_int HE.out, hb1⟩
end Go.Proofs.YtkilblnlplfknaaGreatDoor
end
section
/- PlaceFor: the program's and the reference's. -/
namespace Go.Proofs.YtkilblnlplfknaaGreatDoor
open Go.RowKit Go.Proofs.YtkilblnlplfknaaGreatDoorW.PrintWords Go.Proofs.YtkilblnlplfknaaGreatDoorW.PrintMore
set_option linter.unusedVariables false
set_option linter.unusedSimpArgs false
set_option maxRecDepth 100000

theorem ltU_anti (x b : Bk) : decide (0 < cmpU x b) = ltU b x := by
  unfold ltU
  have := (cmpBy_pre usualL).anti x b
  rw [decide_eq_decide]
  unfold cmpU
  omega
set_option maxHeartbeats 2000000 in
theorem placeClo_c (b x : Bk) (g : Nat) (w : World) (hb : BkAt w ⟨g, 0, none⟩ b) : Calls Tryz.prog 30 #[x.val, .pointer (some ⟨g, 0, none⟩)] w (Ret w (.bool (ltU b x))) := by
  have HC := Aside0.mk (fun W => compare_c x b W)
  have HE := Aside0.mk (ltU_anti x b)
  have hg : g < w.heap.size := hb.lt
  obtain ⟨q0, q1, q2, q3, q4, q5, q6, q7⟩ := hb.below (balloc (Below.refl _ _) (.cells #[.int .i16 x.c, .int .u8 x.m0, .int .u8 x.m1, .int .u8 x.m2, .int .i16 x.v, .int .i16 x.wd, .int .i16 x.h, .int .i16 x.wt] 30))
  obtain ⟨p0, p1, p2, p3, p4, p5, p6, p7⟩ := BkAt.box w x 30
  have HB := Aside0.mk (balloc (Below.refl w.heap.size w) (.cells #[.int .i16 x.c, .int .u8 x.m0, .int .u8 x.m1, .int .u8 x.m2, .int .i16 x.v, .int .i16 x.wd, .int .i16 x.h, .int .i16 x.wt] 30))
  clear hb
  simp only [Bk.val] at HC ⊢
  go_enter Tryz.func30, Tryz.ntmps30
  go_wp2_with fail
  refine (HC.out _).mono ?_; rintro _ w1 ⟨rfl, hb1⟩
  have HB1 := Aside0.mk (bstep HB.out hb1)
  clear hb1 p0 p1 p2 p3 p4 p5 p6 p7 q0 q1 q2 q3 q4 q5 q6 q7
  go_wp2_with fail
  go_ret
  exact ⟨ret_bool HE.out, HB1.out⟩
def pfC (L : List Bk) (b : Bk) : Int := if vBook b = true then (if sCode L = 0 then (if L.length = 60 then 3 else 0) else sCode L) else 1
def pfV (L : List Bk) (b : Bk) : Int := if pfC L b = 0 then (placeOf b L : Nat) else 0
theorem pf_bad {L : List Bk} {b : Bk} {e : Int} (h : pfC L b = e) (he : e ≠ 0) : pfV L b = 0 ∧ pfC L b = e := ⟨by unfold pfV; rw [h, if_neg he], h⟩
theorem pf_ok {L : List Bk} {b : Bk} (h : pfC L b = 0) : pfV L b = (placeOf b L : Nat) ∧ pfC L b = 0 := ⟨by unfold pfV; rw [h, if_pos rfl], h⟩
theorem sCode_zero {L : List Bk} : sCode L = 0 ↔ vBooks L = true ∧ isS L = true := by
  unfold sCode
  by_cases h1 : vBooks L = true <;> by_cases h2 : isS L = true <;> simp [h1, h2]
set_option maxHeartbeats 4000000 in
theorem PlaceFor_c (A : Option Addr) (c : Nat) (L : List Bk) (b : Bk) (w : World) (hL : kBk.C w A L.length L) :
    Calls Tryz.prog 8 #[.slice A L.length c, b.val] w (Ret w (.tuple #[.int .i64 (pfV L b), .int .i64 (pfC L b)])) := by
  have hm := Kd.C_max hL
  have hbx := BkAt.box w b 30
  have HBX := Aside0.mk hbx
  have HB := Aside0.mk (balloc (Below.refl w.heap.size w) (.cells #[.int .i16 b.c, .int .u8 b.m0, .int .u8 b.m1, .int .u8 b.m2, .int .i16 b.v, .int .i16 b.wd, .int .i16 b.h, .int .i16 b.wt] 30))
  have HL := Aside0.mk hL
  have HV := Aside0.mk (fun W => ValidBook_c b W)
  have HS := Aside0.mk (fun W h => sorted1_c A c L W h)
  obtain ⟨p0, p1, p2, p3, p4, p5, p6, p7⟩ := hbx
  clear hL
  simp only [Bk.val] at HV ⊢
  cases h1 : vBook b
  · have HR := Aside0.mk (pf_bad (L := L) (b := b) (e := 1) (by unfold pfC; rw [h1]; rfl) (by decide))
    rw [h1] at HV
    clear h1
    go_enter Tryz.func8, Tryz.ntmps8
    go_wp2_with fail
    refine (HV.out _).mono ?_; rintro _ w1 ⟨rfl, hb1⟩
    have HB1 := Aside0.mk (bstep HB.out hb1)
    clear hb1 p0 p1 p2 p3 p4 p5 p6 p7
    go_wp2_with fail
    go_ret2
    exact ⟨ret_two HR.out.1.symm HR.out.2.symm, HB1.out⟩
  · rw [h1] at HV
    by_cases h2 : sCode L = 0
    · by_cases h3 : L.length = 60
      · have HR := Aside0.mk (pf_bad (L := L) (b := b) (e := 3) (by unfold pfC; rw [h1, if_pos rfl, if_pos h2, if_pos h3]) (by decide))
        have hq : ((L.length : Int) == 60) = true := by simp [h3]
        rw [h2] at HS
        clear h1 h2 h3
        go_enter Tryz.func8, Tryz.ntmps8
        go_wp2_with fail
        refine (HV.out _).mono ?_; rintro _ w1 ⟨rfl, hb1⟩
        have HB1 := Aside0.mk (bstep HB.out hb1)
        clear hb1 p0 p1 p2 p3 p4 p5 p6 p7
        go_wp2_with fail
        refine (HS.out _ (Kd.C_below HL.out HB1.out)).mono ?_; rintro _ w2 ⟨rfl, hb2⟩
        have HB2 := Aside0.mk (bstep (balloc HB1.out _) hb2)
        clear hb2
        go_wp2_with fail
        go_ret2
        exact ⟨ret_two HR.out.1.symm HR.out.2.symm, HB2.out⟩
      · have HR := Aside0.mk (pf_ok (L := L) (b := b) (by unfold pfC; rw [h1, if_pos rfl, if_pos h2, if_neg h3]))
        have hq : ((L.length : Int) == 60) = false := by simpa using (show ¬ (L.length : Int) = 60 by omega)
        rw [h2] at HS
        clear h1 h2 h3
        go_enter Tryz.func8, Tryz.ntmps8
        go_wp2_with fail
        refine (HV.out _).mono ?_; rintro _ w1 ⟨rfl, hb1⟩
        have HB1 := Aside0.mk (bstep HB.out hb1)
        have HBX1 := Aside0.mk (HBX.out.below hb1)
        clear hb1 p0 p1 p2 p3 p4 p5 p6 p7
        go_wp2_with fail
        refine (HS.out _ (Kd.C_below HL.out HB1.out)).mono ?_; rintro _ w2 ⟨rfl, hb2⟩
        have HB2 := Aside0.mk (bstep (balloc HB1.out _) hb2)
        have HBX2 := Aside0.mk ((HBX1.out.below (balloc (Below.refl _ _) _)).below hb2)
        clear hb2
        go_wp2_with fail
        refine (firstOf_c A c L 30 #[.pointer (some ⟨w.heap.size, 0, none⟩)] (ltU b) w2 (Kd.C_below HL.out HB2.out) ⟨_, Tryz.func30, rfl, rfl⟩ (fun W hW x hx => placeClo_c b x _ W (HBX2.out.below hW))).mono ?_; rintro _ w3 ⟨rfl, hb3⟩
        have HB3 := Aside0.mk (bstep HB2.out hb3)
        clear hb3
        go_wp2_with fail
        go_ret2
        exact ⟨ret_two HR.out.1.symm HR.out.2.symm, HB3.out⟩
    · have HR := Aside0.mk (pf_bad (L := L) (b := b) (e := sCode L) (by unfold pfC; rw [h1, if_pos rfl, if_neg h2]) h2)
      have hq : (sCode L != 0) = true := by simpa using h2
      clear h1 h2
      go_enter Tryz.func8, Tryz.ntmps8
      go_wp2_with fail
      refine (HV.out _).mono ?_; rintro _ w1 ⟨rfl, hb1⟩
      have HB1 := Aside0.mk (bstep HB.out hb1)
      clear hb1 p0 p1 p2 p3 p4 p5 p6 p7
      go_wp2_with fail
      refine (HS.out _ (Kd.C_below HL.out HB1.out)).mono ?_; rintro _ w2 ⟨rfl, hb2⟩
      have HB2 := Aside0.mk (bstep (balloc HB1.out _) hb2)
      clear hb2
      go_wp2_with fail
      go_ret2
      exact ⟨ret_two HR.out.1.symm HR.out.2.symm, HB2.out⟩
theorem drop_cons {α : Type} {L : List α} {j : Nat} {x : α} (h : L[j]? = some x) : L.drop j = x :: L.drop (j + 1) := by
  obtain ⟨hl, he⟩ := List.getElem?_eq_some_iff.1 h
  rw [List.drop_eq_getElem_cons hl, he]
set_option maxHeartbeats 4000000 in
theorem l01Place_c (A : Option Addr) (c : Nat) (L : List Bk) (b : Bk) (pb : Addr) (w : World) (hL : kBk.C w A L.length L) (hok : OkL L) (hob : b.ok) (hb : BkAt w pb b) (hu : Srt.Up ltU L) :
    Calls Tryz.prog 35 #[.slice A L.length c, .pointer (some pb)] w (Ret w (.int .i64 (placeOf b L : Nat))) := by
  have hm := Kd.C_max hL
  have HL := Aside0.mk hL
  have HO := Aside0.mk hok
  have HOB := Aside0.mk hob
  have HBP := Aside0.mk hb
  have HU := Aside0.mk hu
  clear hL hok hob hb hu
  go_enter Tryz.func35, Tryz.ntmps35
  go_wp2
  go_loopg [5] L.length (fun gk v wr => ∃ k : Nat, v = .int .i64 k ∧ Aside0 (gk = k ∧ k ≤ L.length ∧ ∀ x, x ∈ L.drop k → ltU b x = true) ∧ Aside0 (Below w.heap.size w wr))
  case atStart => exact ⟨L.length, rfl, ⟨rfl, Nat.le_refl _, fun x hx => by simp at hx⟩, ⟨Below.refl _ _⟩⟩
  case round =>
    obtain ⟨k, rfl, HK, HB⟩ := hrel
    by_cases h0 : k = 0
    · have hq : ¬ (0 : Int) < (k : Int) := by omega
      have HR := Aside0.mk (placeOf_eq HU.out HK.out.2.1 HK.out.2.2 (.inl h0))
      clear h0
      go_wp2
      go_ret
      exact ⟨ret_int (by rw [HR.out]), HB.out⟩
    · obtain ⟨j, hj⟩ : ∃ j, k = j + 1 := ⟨k - 1, by omega⟩
      have hjl : j < L.length := by have := HK.out.2.1; omega
      obtain ⟨ad, x, rfl, hx, hc⟩ := at_bk' (Kd.C_below HL.out HB.out) (k - 1) (by omega)
      have HX := Aside0.mk (l01Usual_c _ _ b x HOB.out (HO.out x (mem_of hx.out)) wr (HBP.out.below HB.out) hc)
      have q1 : (1 : Int) ≤ (k : Int) := by omega
      have q2 : (0 : Int) < (k : Int) := by omega
      have q3 : (k : Int) < (L.length : Int) + 1 := by have := HK.out.2.1; omega
      have q4 : (k : Int) - 1 < (L.length : Int) := by omega
      have q5 : (0 : Int) ≤ (k : Int) - 1 := by omega
      have q6 : ((k : Int) - 1).toNat = k - 1 := by omega
      have HJ := Aside0.mk hj
      clear h0 hj hc
      go_wp2_with fail
      refine HX.out.mono ?_; rintro _ w1 ⟨rfl, hb1⟩
      have HB1 := Aside0.mk (bstep HB.out hb1)
      clear hb1 HX
      by_cases hlow : cmpU b x < 0
      · have HS := Aside0.mk (show ∀ y, y ∈ L.drop (k - 1) → ltU b y = true by
          intro y hy
          have hx1 : L[k - 1]? = some x := hx.out
          rw [drop_cons hx1] at hy
          rcases List.mem_cons.1 hy with rfl | hy
          · unfold ltU; simpa using hlow
          · exact HK.out.2.2 y (by rw [show k = k - 1 + 1 by have := HJ.out; omega]; exact hy))
        go_wp2
        go_roundg (gk - 1)
        case measure => have := HK.out.1; have := HJ.out; omega
        case rel => exact ⟨k - 1, by first | go_num | (congr 1; have := HJ.out; omega), ⟨by have := HK.out.1; omega, by have := HK.out.2.1; omega, HS.out⟩, HB1⟩
      · have HR := Aside0.mk (placeOf_eq HU.out HK.out.2.1 HK.out.2.2 (.inr ⟨x, hx.out, by unfold ltU; simpa using hlow⟩))
        go_wp2
        go_ret
        exact ⟨ret_int (by rw [HR.out]), HB1.out⟩
set_option maxHeartbeats 4000000 in
theorem specPlaceFor_c (A : Option Addr) (c : Nat) (L : List Bk) (b : Bk) (hok : OkL L) (hob : b.ok) (w : World) (hL : kBk.C w A L.length L) :
    Calls Tryz.prog 9 #[.slice A L.length c, b.val] w (Ret w (.tuple #[.int .i64 (pfV L b), .int .i64 (pfC L b)])) := by
  have hm := Kd.C_max hL
  have HBX := Aside0.mk (BkAt.box w b 30)
  have HB := Aside0.mk (balloc (Below.refl w.heap.size w) (.cells #[.int .i16 b.c, .int .u8 b.m0, .int .u8 b.m1, .int .u8 b.m2, .int .i16 b.v, .int .i16 b.wd, .int .i16 b.h, .int .i16 b.wt] 30))
  have HL := Aside0.mk hL
  have HO := Aside0.mk hok
  have HOB := Aside0.mk hob
  have HV := Aside0.mk (fun p W h => l01Book_c b hob p W h)
  have HK := Aside0.mk (fun W h => l01Ok_c A c L hok W h)
  have HT := Aside0.mk (fun W h => l01Out_c A c L W h hok)
  clear hL hok hob
  simp only [Bk.val]
  cases h1 : vBook b
  · have HR := Aside0.mk (pf_bad (L := L) (b := b) (e := 1) (by unfold pfC; rw [h1]; rfl) (by decide))
    rw [h1] at HV
    clear h1
    go_enter Tryz.func9, Tryz.ntmps9
    go_wp2_with fail
    refine (HV.out _ _ HBX.out).mono ?_; rintro _ w1 ⟨rfl, hb1⟩
    have HB1 := Aside0.mk (bstep HB.out hb1)
    clear hb1
    go_wp2_with fail
    go_ret2
    exact ⟨ret_two HR.out.1.symm HR.out.2.symm, HB1.out⟩
  · rw [h1] at HV
    cases h2 : vBooks L
    · have hs : sCode L = 1 := by unfold sCode; rw [h2]; rfl
      have HR := Aside0.mk (pf_bad (L := L) (b := b) (e := 1) (by unfold pfC; rw [h1, hs]; rfl) (by decide))
      rw [h2] at HK
      clear h1 h2 hs
      go_enter Tryz.func9, Tryz.ntmps9
      go_wp2_with fail
      refine (HV.out _ _ HBX.out).mono ?_; rintro _ w1 ⟨rfl, hb1⟩
      have HB1 := Aside0.mk (bstep HB.out hb1)
      clear hb1
      go_wp2_with fail
      refine (HK.out _ (Kd.C_below HL.out HB1.out)).mono ?_; rintro _ w2 ⟨rfl, hb2⟩
      have HB2 := Aside0.mk (bstep HB1.out hb2)
      clear hb2
      go_wp2_with fail
      go_ret2
      exact ⟨ret_two HR.out.1.symm HR.out.2.symm, HB2.out⟩
    · rw [h2] at HK
      by_cases h3 : outOf L < 0
      · have h3' : isS L = true := by unfold isS; simpa using h3
        have hs : sCode L = 0 := sCode_zero.2 ⟨h2, h3'⟩
        have HU := Aside0.mk (isS_up h3')
        by_cases h4 : L.length = 60
        · have HR := Aside0.mk (pf_bad (L := L) (b := b) (e := 3) (by unfold pfC; rw [h1, if_pos rfl, if_pos hs, if_pos h4]) (by decide))
          have hq : ((L.length : Int) == 60) = true := by simp [h4]
          clear h1 h2 h4 h3' hs
          go_enter Tryz.func9, Tryz.ntmps9
          go_wp2_with fail
          refine (HV.out _ _ HBX.out).mono ?_; rintro _ w1 ⟨rfl, hb1⟩
          have HB1 := Aside0.mk (bstep HB.out hb1)
          clear hb1
          go_wp2_with fail
          refine (HK.out _ (Kd.C_below HL.out HB1.out)).mono ?_; rintro _ w2 ⟨rfl, hb2⟩
          have HB2 := Aside0.mk (bstep HB1.out hb2)
          clear hb2
          go_wp2_with fail
          refine (HT.out _ (Kd.C_below HL.out HB2.out)).mono ?_; rintro _ w3 ⟨rfl, hb3⟩
          have HB3 := Aside0.mk (bstep HB2.out hb3)
          clear hb3
          go_wp2_with fail
          go_ret2
          exact ⟨ret_two HR.out.1.symm HR.out.2.symm, HB3.out⟩
        · have HR := Aside0.mk (pf_ok (L := L) (b := b) (by unfold pfC; rw [h1, if_pos rfl, if_pos hs, if_neg h4]))
          have hq : ((L.length : Int) == 60) = false := by simpa using (show ¬ (L.length : Int) = 60 by omega)
          clear h1 h2 h4 h3' hs
          go_enter Tryz.func9, Tryz.ntmps9
          go_wp2_with fail
          refine (HV.out _ _ HBX.out).mono ?_; rintro _ w1 ⟨rfl, hb1⟩
          have HB1 := Aside0.mk (bstep HB.out hb1)
          have HX1 := Aside0.mk (HBX.out.below hb1)
          clear hb1
          go_wp2_with fail
          refine (HK.out _ (Kd.C_below HL.out HB1.out)).mono ?_; rintro _ w2 ⟨rfl, hb2⟩
          have HB2 := Aside0.mk (bstep HB1.out hb2)
          have HX2 := Aside0.mk (HX1.out.below hb2)
          clear hb2
          go_wp2_with fail
          refine (HT.out _ (Kd.C_below HL.out HB2.out)).mono ?_; rintro _ w3 ⟨rfl, hb3⟩
          have HB3 := Aside0.mk (bstep HB2.out hb3)
          have HX3 := Aside0.mk (HX2.out.below hb3)
          clear hb3
          go_wp2_with fail
          refine (l01Place_c A c L b _ _ (Kd.C_below HL.out HB3.out) HO.out HOB.out HX3.out HU.out).mono ?_; rintro _ w4 ⟨rfl, hb4⟩
          have HB4 := Aside0.mk (bstep HB3.out hb4)
          clear hb4
          go_wp2_with fail
          go_ret2
          exact ⟨ret_two HR.out.1.symm HR.out.2.symm, HB4.out⟩
      · have h3' : isS L = false := by unfold isS; simpa using h3
        have hs : sCode L = 4 := by unfold sCode; rw [h2, h3']; rfl
        have HR := Aside0.mk (pf_bad (L := L) (b := b) (e := 4) (by unfold pfC; rw [h1, hs]; rfl) (by decide))
        clear h1 h2 h3' hs
        go_enter Tryz.func9, Tryz.ntmps9
        go_wp2_with fail
        refine (HV.out _ _ HBX.out).mono ?_; rintro _ w1 ⟨rfl, hb1⟩
        have HB1 := Aside0.mk (bstep HB.out hb1)
        clear hb1
        go_wp2_with fail
        refine (HK.out _ (Kd.C_below HL.out HB1.out)).mono ?_; rintro _ w2 ⟨rfl, hb2⟩
        have HB2 := Aside0.mk (bstep HB1.out hb2)
        clear hb2
        go_wp2_with fail
        refine (HT.out _ (Kd.C_below HL.out HB2.out)).mono ?_; rintro _ w3 ⟨rfl, hb3⟩
        have HB3 := Aside0.mk (bstep HB2.out hb3)
        clear hb3
        go_wp2_with fail
        go_ret2
        exact ⟨ret_two HR.out.1.symm HR.out.2.symm, HB3.out⟩
end Go.Proofs.YtkilblnlplfknaaGreatDoor
end
section
/- SortBooks: the program's; SortBooks: the reference's; SortBooks: the reference's, as a whole. -/
namespace Go.Proofs.YtkilblnlplfknaaGreatDoor
open Go.RowKit Go.Proofs.YtkilblnlplfknaaGreatDoorW.PrintWords Go.Proofs.YtkilblnlplfknaaGreatDoorW.PrintMore
set_option linter.unusedVariables false
set_option linter.unusedSimpArgs false
set_option maxRecDepth 100000

theorem sortClo_c (p : Addr) (A : Option Addr) (c : Nat) (O : List Int) (x y : Bk) (w : World) (hp : w.cell? p = some (.slice A O.length c)) (hpl : p.block < w.heap.size) (hO : (Kd.int .i8).C w A O.length O) (hk : ∀ x ∈ O, I8 x) :
    Calls Tryz.prog 68 (#[x.val, y.val] ++ #[.pointer (some p)]) w (Ret w (.int .i64 (cmpBy O x y))) := by
  show Calls Tryz.prog 68 #[x.val, y.val, .pointer (some p)] w (Ret w (.int .i64 (cmpBy O x y)))
  have HC := Aside0.mk (fun W h => compareBy_c A c O x y W h hk)
  have HO := Aside0.mk hO
  have HB := Aside0.mk (balloc (balloc (Below.refl w.heap.size w) (.cells #[.int .i16 x.c, .int .u8 x.m0, .int .u8 x.m1, .int .u8 x.m2, .int .i16 x.v, .int .i16 x.wd, .int .i16 x.h, .int .i16 x.wt] 30)) (.cells #[.int .i16 y.c, .int .u8 y.m0, .int .u8 y.m1, .int .u8 y.m2, .int .i16 y.v, .int .i16 y.wd, .int .i16 y.h, .int .i16 y.wt] 30))
  have hp2 := (HB.out.cell hpl).trans hp
  obtain ⟨p0, p1, p2, p3, p4, p5, p6, p7⟩ := (BkAt.box w x 30).below (balloc (Below.refl _ _) (.cells #[.int .i16 y.c, .int .u8 y.m0, .int .u8 y.m1, .int .u8 y.m2, .int .i16 y.v, .int .i16 y.wd, .int .i16 y.h, .int .i16 y.wt] 30))
  have hbb := BkAt.box (w.alloc (.cells #[.int .i16 x.c, .int .u8 x.m0, .int .u8 x.m1, .int .u8 x.m2, .int .i16 x.v, .int .i16 x.wd, .int .i16 x.h, .int .i16 x.wt] 30)) y 30
  simp only [World.size_alloc] at hbb
  obtain ⟨q0, q1, q2, q3, q4, q5, q6, q7⟩ := hbb
  clear hp hO hpl
  simp only [Bk.val] at HC ⊢
  go_enter Tryz.func68, Tryz.ntmps68
  go_wp2_with fail
  refine (HC.out _ (Kd.C_below HO.out HB.out)).mono ?_; rintro _ w1 ⟨rfl, hb1⟩
  have HB1 := Aside0.mk (bstep HB.out hb1)
  clear hb1 p0 p1 p2 p3 p4 p5 p6 p7 q0 q1 q2 q3 q4 q5 q6 q7
  go_wp2_with fail
  go_ret
  exact ⟨rfl, HB1.out⟩
def okSort (O : List Int) (L : List Bk) : Bool := vOrd O && vBooks L
def sortV (O : List Int) (L : List Bk) : List Bk := if okSort O L = true then Srt.sortL (ltBy O) L else []
def sortE (O : List Int) (L : List Bk) : Int := if okSort O L = true then 0 else 1
theorem sort_bad {O : List Int} {L : List Bk} (h : okSort O L = false) : sortV O L = [] ∧ sortE O L = 1 := by unfold sortV sortE; rw [h]; exact ⟨rfl, rfl⟩
theorem sort_good {O : List Int} {L : List Bk} (h : okSort O L = true) : sortV O L = Srt.sortL (ltBy O) L ∧ sortE O L = 0 := by unfold sortV sortE; rw [h]; exact ⟨rfl, rfl⟩
theorem sortV_len (O : List Int) (L : List Bk) : (sortV O L).length ≤ 2097152 := by
  unfold sortV
  split
  · rename_i h
    have h2 := (Bool.and_eq_true_iff.1 h).2
    have := vBooks_len h2
    rw [← Srt.Stab.length (ltBy_wk O) (Srt.sortL_ok (ltBy_wk O) L).2]
    omega
  · simp
theorem sort_box (A0 A1 : Option Addr) (c0 : Nat) (O : List Int) (L : List Bk) (w W : World) (hO : (Kd.int .i8).C w A0 O.length O) (hL : kBk.C w A1 L.length L) (h : Below (w.heap.size + 1) (w.alloc (.cells #[.slice A0 O.length c0] 58)) W) :
    W.cell? ⟨w.heap.size, 0, none⟩ = some (.slice A0 O.length c0) ∧ w.heap.size < W.heap.size ∧ (Kd.int .i8).C W A0 O.length O ∧ kBk.C W A1 L.length L ∧ Below w.heap.size w W := by
  have h0 : (w.alloc (.cells #[.slice A0 O.length c0] 58)).heap.size = w.heap.size + 1 := by simp
  have hb := balloc (Below.refl w.heap.size w) (.cells #[.slice A0 O.length c0] 58)
  have hb2 : Below w.heap.size w W := hb.trans (h.mono (by omega))
  have hs := h.size
  rw [h0] at hs
  exact ⟨(h.cell (p := ⟨w.heap.size, 0, none⟩) (Nat.lt_succ_self _)).trans ((blk_cell (blk_new w _) 0).trans rfl), by omega, Kd.C_below hO hb2, Kd.C_below hL hb2, hb2⟩
theorem SortBooks_c (A0 A1 : Option Addr) (c0 c1 : Nat) (O : List Int) (L : List Bk) (w : World) (hO : (Kd.int .i8).C w A0 O.length O) (hk : ∀ x ∈ O, I8 x) (hL : kBk.C w A1 L.length L) :
    Calls Tryz.prog 40 #[.slice A0 O.length c0, .slice A1 L.length c1] w (RetQ w (TupB w (sortV O L) (sortE O L))) := by
  have HX := Aside0.mk (fun W h => sort_box A0 A1 c0 O L w W hO hL h)
  have HS := Aside0.mk (show Below (w.heap.size + 1) (w.alloc (.cells #[.slice A0 O.length c0] 58)) (w.alloc (.cells #[.slice A0 O.length c0] 58)) from Below.refl _ _)
  have hb := balloc (Below.refl w.heap.size w) (.cells #[.slice A0 O.length c0] 58)
  have HL := Aside0.mk (Kd.C_below hL hb)
  have HO := Aside0.mk (Kd.C_below hO hb)
  have HV := Aside0.mk (fun W h => ValidOrder_c A0 c0 O W h hk)
  have HVB := Aside0.mk (fun W h => ValidBooks_c A1 c1 L W h)
  have HCL := Aside0.mk (fun p W h1 h2 h3 x y => sortClo_c p A0 c0 O x y W h1 h2 h3 hk)
  have hcell : (w.alloc (.cells #[.slice A0 O.length c0] 58)).cell? ⟨w.heap.size, 0, none⟩ = some (.slice A0 O.length c0) := (blk_cell (blk_new w _) 0).trans rfl
  have HSZ := Aside0.mk (show (w.alloc (.cells #[.slice A0 O.length c0] 58)).heap.size = w.heap.size + 1 by simp)
  clear hO hL hb
  cases h1 : vOrd O
  · have HE := Aside0.mk (sort_bad (O := O) (L := L) (by unfold okSort; rw [h1]; rfl))
    rw [h1] at HV
    clear h1
    go_enter Tryz.func40, Tryz.ntmps40
    go_wp2_with fail
    refine (HV.out _ HO.out).mono ?_; rintro _ w1 ⟨rfl, hb1⟩
    have HS1 := Aside0.mk (HS.out.trans (hb1.mono (by rw [HSZ.out]; exact Nat.le_refl _)))
    clear hb1
    go_wp2_with fail
    go_ret2
    rw [HE.out.1, HE.out.2]
    exact ⟨_, rfl, (HX.out _ HS1.out).2.2.2.2, _, rfl, Kd.R_nil _ _ _ _ _⟩
  · cases h2 : vBooks L
    · have HE := Aside0.mk (sort_bad (O := O) (L := L) (by unfold okSort; rw [h1, h2]; rfl))
      rw [h1] at HV
      rw [h2] at HVB
      clear h1 h2
      go_enter Tryz.func40, Tryz.ntmps40
      go_wp2_with fail
      refine (HV.out _ HO.out).mono ?_; rintro _ w1 ⟨rfl, hb1⟩
      have HS1 := Aside0.mk (HS.out.trans (hb1.mono (by rw [HSZ.out]; exact Nat.le_refl _)))
      clear hb1
      go_wp2_with fail
      refine (HVB.out _ (HX.out _ HS1.out).2.2.2.1).mono ?_; rintro _ w2 ⟨rfl, hb2⟩
      have HS2 := Aside0.mk (HS1.out.trans (hb2.mono (HX.out _ HS1.out).2.1))
      clear hb2
      go_wp2_with fail
      go_ret2
      rw [HE.out.1, HE.out.2]
      exact ⟨_, rfl, (HX.out _ HS2.out).2.2.2.2, _, rfl, Kd.R_nil _ _ _ _ _⟩
    · have HE := Aside0.mk (sort_good (O := O) (L := L) (by unfold okSort; rw [h1, h2]; rfl))
      have hl := vBooks_len h2
      rw [h1] at HV
      rw [h2] at HVB
      clear h1 h2
      go_enter Tryz.func40, Tryz.ntmps40
      go_wp2_with fail
      refine (HV.out _ HO.out).mono ?_; rintro _ w1 ⟨rfl, hb1⟩
      have HS1 := Aside0.mk (HS.out.trans (hb1.mono (by rw [HSZ.out]; exact Nat.le_refl _)))
      clear hb1
      go_wp2_with fail
      refine (HVB.out _ (HX.out _ HS1.out).2.2.2.1).mono ?_; rintro _ w2 ⟨rfl, hb2⟩
      have HS2 := Aside0.mk (HS1.out.trans (hb2.mono (HX.out _ HS1.out).2.1))
      clear hb2
      go_wp2_with fail
      refine (clone_c A1 c1 L w2 (HX.out _ HS2.out).2.2.2.1 (by omega)).mono ?_; rintro _ w3 ⟨v, rfl, hb3, hv⟩
      have HS3 := Aside0.mk (HS2.out.trans (hb3.mono (HX.out _ HS2.out).2.1))
      have HV3 := Aside0.mk (show kBk.R 30 w3 (w.heap.size + 1) (fun _ => True) v L from Kd.R_lower hv (HX.out _ HS2.out).2.1)
      clear hb3 hv
      have HFN : Fun Tryz.prog 68 := ⟨_, Tryz.func68, rfl, rfl⟩
      have HCM := Aside0.mk (show ∀ g, v.ownBlock = some g → CmpOk 68 #[.pointer (some ⟨w.heap.size, 0, none⟩)] (cmpBy O) g w3 from fun g hg => ⟨HFN, fun W hW x y => by
        have h4 : Below (w.heap.size + 1) (w.alloc (.cells #[.slice A0 O.length c0] 58)) W := pw_below_grown HS3.out _ (HX.out _ HS3.out).2.1 hW (fun k hk => by
          cases hk; exact Kd.R_base HV3.out _ hg)
        have h5 := HX.out _ h4
        exact HCL.out _ W h5.1 h5.2.1 h5.2.2.1 x y⟩)
      go_wp2_with fail
      refine (sortStable_c v L _ _ (cmpBy O) (ltBy_wk O) _ _ w3 HV3.out (by omega) HCM.out).mono ?_; rintro _ w4 ⟨rfl, h5, h6⟩
      have H5 := Aside0.mk h5
      have HS4 := Aside0.mk (pw_below_grown HS3.out _ (HX.out _ HS3.out).2.1 h6 (fun k hk => Kd.R_base HV3.out _ hk))
      clear h5 h6
      go_wp2_with fail
      go_ret2
      rw [HE.out.1, HE.out.2]
      exact ⟨_, rfl, (HX.out _ HS4.out).2.2.2.2, _, rfl, Kd.R_lower H5.out (Nat.le_succ _)⟩
theorem put_get {O : List Bk} {z : Bk} {k : Nat} (h0 : 0 < k) (hk : k ≤ O.length) : (O.take k ++ z :: O.drop k)[k - 1]? = O[k - 1]? := by
  rw [List.getElem?_append_left (by rw [List.length_take]; omega), List.getElem?_take, if_pos (by omega)]
theorem put_set {O : List Bk} {z x : Bk} {k : Nat} (hk : k ≤ O.length) : (O.take k ++ z :: O.drop k).set k x = O.take k ++ x :: O.drop k := by
  have hl : (O.take k).length = k := by rw [List.length_take]; omega
  rw [List.set_append_right _ _ (by omega), hl, Nat.sub_self, List.set_cons_zero]
theorem put_step {O : List Bk} {z y : Bk} {k : Nat} (h0 : 0 < k) (hy : O[k - 1]? = some y) : (O.take k ++ z :: O.drop k).set k y = O.take (k - 1) ++ y :: O.drop (k - 1) := by
  have hl := (List.getElem?_eq_some_iff.1 hy).1
  rw [put_set (by omega)]
  have h1 : O.take k = O.take (k - 1) ++ [y] := by
    have := take_snoc hy
    rwa [show k - 1 + 1 = k by omega] at this
  have h2 : O.drop (k - 1) = y :: O.drop k := by
    have := drop_cons hy
    rwa [show k - 1 + 1 = k by omega] at this
  rw [h1, h2]
  simp
/-- A place that is reached: the list is sorted. -/
theorem put_end {lt : Bk → Bk → Bool} (hw : Srt.Wk lt) {L : List Bk} {i : Nat} {x : Bk} {k : Nat} (hx : L[i]? = some x) (hk : k ≤ (Srt.sortL lt (L.take i)).length) (h1 : ∀ y, y ∈ (Srt.sortL lt (L.take i)).drop k → lt x y = true)
    (h2 : k = 0 ∨ ∃ y, (Srt.sortL lt (L.take i))[k - 1]? = some y ∧ lt x y = false) :
    (Srt.sortL lt (L.take i)).take k ++ x :: (Srt.sortL lt (L.take i)).drop k = Srt.sortL lt (L.take (i + 1)) := by
  have ho := Srt.sortL_ok hw (L.take i)
  have hp := Srt.put_ok hw (x := x) (k := k) ho.1 h1 (by
    intro y hy
    rcases h2 with h2 | ⟨q, hq, hq2⟩
    · rw [h2] at hy; simp at hy
    · obtain ⟨j, hj, rfl⟩ := List.getElem_of_mem hy
      rw [List.length_take] at hj
      rw [List.getElem_take]
      by_cases e : j = k - 1
      · subst e
        obtain ⟨hl, he⟩ := List.getElem?_eq_some_iff.1 hq
        rw [he]; exact hq2
      · obtain ⟨hl, he⟩ := List.getElem?_eq_some_iff.1 hq
        have hu := List.pairwise_iff_getElem.1 ho.1 j (k - 1) (by omega) hl (by omega)
        rw [he] at hu
        exact hw.ntr _ _ _ hq2 hu)
  rw [take_snoc hx]
  exact Srt.sortL_of hw hp.1 ((Srt.Stab.app ho.2 (Srt.Stab.refl lt [x])).trans hp.2)
structure PutIn (lt : Bk → Bk → Bool) (x : Bk) (O C : List Bk) (k : Nat) : Prop where
  le : k ≤ O.length
  is : ∃ z, C = O.take k ++ z :: O.drop k
  up : ∀ y, y ∈ O.drop k → lt x y = true
theorem sortL_len {lt : Bk → Bk → Bool} (hw : Srt.Wk lt) (L : List Bk) : (Srt.sortL lt L).length = L.length := (Srt.Stab.length hw (Srt.sortL_ok hw L).2).symm
theorem sortL_mem {lt : Bk → Bk → Bool} (hw : Srt.Wk lt) (L : List Bk) (x : Bk) : x ∈ Srt.sortL lt L ↔ x ∈ L := (Srt.Stab.mem hw (Srt.sortL_ok hw L).2 x).symm
set_option maxHeartbeats 8000000 in
theorem l01Sorted_c (A0 A1 : Option Addr) (c0 c1 : Nat) (R : List Int) (L : List Bk) (w : World) (hO : (Kd.int .i8).C w A0 R.length R) (hk : OrdOk R) (hL : kBk.C w A1 L.length L) (hok : OkL L) (hn : L.length ≤ 60) :
    Calls Tryz.prog 24 #[.slice A0 R.length c0, .slice A1 L.length c1] w (RetQ w (NewBk w (Srt.sortL (ltBy R) L))) := by
  have HL := Aside0.mk hL
  have HR0 := Aside0.mk hO
  have HOK := Aside0.mk hok
  have HKK := Aside0.mk hk
  have hw := Aside0.mk (ltBy_wk R)
  clear hL hO hok hk
  go_enter Tryz.func24, Tryz.ntmps24
  go_wp2
  go_loopg [5, 6] L.length (fun gk v5 v6 wr => ∃ (i : Nat), i + gk = L.length ∧ v6 = .int .i64 i ∧ Aside0 (kBk.R 30 wr w.heap.size (fun _ => True) v5 (Srt.sortL (ltBy R) (L.take i))) ∧ Aside0 (Below w.heap.size w wr))
  case atStart => exact ⟨0, by omega, rfl, ⟨R_zero _ _ _ _ _ (Nat.le_refl _) trivial⟩, ⟨balloc (Below.refl _ _) _⟩⟩
  case round =>
    obtain ⟨i, hg, rfl, HR, HB⟩ := hrel
    have HG := Aside0.mk hg
    by_cases hlt : i < L.length
    · obtain ⟨OO, hOO⟩ : ∃ OO, OO = Srt.sortL (ltBy R) (L.take i) := ⟨_, rfl⟩
      rw [← hOO] at HR
      have HOO := Aside0.mk hOO
      have hOl : OO.length = i := by rw [hOO, sortL_len hw.out, List.length_take]; omega
      clear hOO
      obtain ⟨ad, x, rfl, hx, hxb⟩ := at_bk' (Kd.C_below HL.out HB.out) i hlt
      have HX := Aside0.mk hxb
      obtain ⟨x0, x1, x2, x3, x4, x5, x6, x7⟩ := hxb
      obtain ⟨A5, c5, rfl⟩ := Kd.R_slice HR.out
      rw [hOl] at HR ⊢
      have i0 : (0 : Int) ≤ (i : Int) := by omega
      have i1 : (i : Int) < (L.length : Int) := by omega
      clear hg
      go_wp2_with (at_builtin; refine bk_append (w := w) rfl (.tmp 17) (.tmp 22) rfl _ OO x rfl rfl HR.out HB.out (by omega) ?_; intro v1 w1 hR1 hB1 hg1; have HR1 := Aside0.mk hR1; have HB1 := Aside0.mk hB1; clear hR1 hB1 hg1)
      obtain ⟨g, cap, rfl, hgB, hgl, _⟩ := Kd.R_form HR1.out (by simp)
      have hC1 : (OO ++ [x]).length = i + 1 := by simp [hOl]
      rw [hC1] at HR1 ⊢
      have HR2 := Aside0.mk (show RowIs w.heap.size (fun _ => True) w1 g (i + 1) cap (OO ++ [x]) w1 from ⟨HR1.out, World.grownBy.refl _ _⟩)
      clear HR HR1 x0 x1 x2 x3 x4 x5 x6 x7
      obtain ⟨wo, rfl⟩ : ∃ wo : World, wo = wr := ⟨_, rfl⟩
      obtain ⟨gO, rfl⟩ : ∃ g : Nat, g = gk := ⟨_, rfl⟩
      go_loopg [7] i (fun gk v7 wr => ∃ (k : Nat) (C : List Bk), k = gk ∧ v7 = .int .i64 k ∧ Aside0 (PutIn (ltBy R) x OO C k) ∧ Aside0 (RowIs w.heap.size (fun _ => True) w1 g (i + 1) cap C wr) ∧ Aside0 (Below w.heap.size w wr))
      case atStart => exact ⟨i, _, rfl, rfl, ⟨⟨by omega, ⟨x, by rw [List.take_of_length_le (by omega), List.drop_of_length_le (by omega)]⟩, fun y hy => by rw [List.drop_of_length_le (by omega)] at hy; cases hy⟩⟩, HR2, HB1⟩
      case round =>
        clear HR2 HB1
        obtain ⟨k, C, rfl, rfl, HP, HR, HB⟩ := hrel
        have hki : k ≤ i := by have := HP.out.le; omega
        have hxb := HX.out.below (show Below wo.heap.size wo wo from Below.refl _ _)
        obtain ⟨ad', x', e1, hx', hxb'⟩ := at_bk' (Kd.C_below HL.out HB.out) i hlt
        injection e1 with e1
        subst e1
        obtain rfl : x' = x := by have := hx'.out; rw [hx.out] at this; exact (Option.some.inj this).symm
        clear hxb
        have HXB := Aside0.mk hxb'
        by_cases hk0 : k = 0
        · have e0 : decide (0 < k) = false := by simp; omega
          have HN := Aside0.mk (put_end (k := k) hw.out hx.out (by rw [← HOO.out]; omega) (by rw [← HOO.out]; exact HP.out.up) (.inl hk0))
          obtain ⟨x0, x1, x2, x3, x4, x5, x6, x7⟩ := hxb'
          have HK := Aside0.mk hk0
          have k0 : (0 : Int) ≤ (k : Int) := by omega
          have k1 : (k : Int) < (i : Int) + 1 := by omega
          clear hk0
          go_wp2_with fail
          go_quiet (fail)
          go_wp2_with (refine bk_store (w := w) w.heap.size rfl rfl (.tmp 54) (.tmp 53) rfl k _ x' (fun _ => True) rfl (by omega) rfl (Kd.R_drewN HR.out.1 _) (by omega) (bdrewN HB.out _) ?_; intro w3 hR3 hB3 hg3; have HR3 := Aside0.mk hR3; have HB3 := Aside0.mk hB3; clear hR3 hB3 hg3)
          go_roundg (gO - 1)
          case measure => have := HG.out; omega
          exact ⟨i + 1, by have := HG.out; omega, by go_num, ⟨by
            have h1 := HR3.out
            obtain ⟨z, hz⟩ := HP.out.is
            rw [hz, put_set HP.out.le, HOO.out, HN.out] at h1
            exact h1⟩, HB3⟩
        · have hk1 : k - 1 < i + 1 := by omega
          obtain ⟨y, hy, r0, r1, r2, r3, r4, r5, r6, r7, s0, s1, s2, s3, s4, s5, s6, s7⟩ := row_at HR.out.1 hk1
          have hyO : OO[k - 1]? = some y := by
            obtain ⟨z, hz⟩ := HP.out.is
            have := hy.out
            rwa [hz, put_get (by omega) HP.out.le] at this
          have hyL : y ∈ L := List.mem_of_mem_take ((sortL_mem hw.out _ y).1 (by rw [← HOO.out]; exact mem_of hyO))
          have HYO := Aside0.mk hyO
          have HC := Aside0.mk (l01Compare_c A0 c0 R (ad.add (i * 8)) ⟨g, (k - 1) * 8, none⟩ x' y (HOK.out _ (mem_of hx.out)) (HOK.out _ hyL) wr.drew (Kd.C_below HR0.out (bdrew HB.out)) HKK.out (hxb'.below (bdrew (Below.refl _ _))) ⟨r0, r1, r2, r3, r4, r5, r6, r7⟩)
          have e0 : decide (0 < k) = true := by simp; omega
          have q0 : (0 : Int) ≤ (k : Int) := by omega
          have q1 : (1 : Int) ≤ (k : Int) := by omega
          have q2 : (k : Int) < (i : Int) + 1 := by omega
          have q3 : (k : Int) < (i : Int) + 1 + 1 := by omega
          have q4 : (k : Int) - 1 < (i : Int) + 1 := by omega
          have q5 : (0 : Int) ≤ (k : Int) - 1 := by omega
          have q6 : ((k : Int) - 1).toNat = k - 1 := by omega
          have q7 : IntKind.i64.wrap ((k : Int) - 1) = (k : Int) - 1 := by simp only [IntKind.wrap, IntKind.bits, IntKind.signed, Bool.true_and, decide_eq_true_eq, ge_iff_le]; split <;> omega
          have HK := Aside0.mk hk0
          clear hyO hyL hk0 hxb' r0 r1 r2 r3 r4 r5 r6 r7 s0 s1 s2 s3 s4 s5 s6 s7
          go_wp2_with fail
          go_still_tail 11, (by kernel_rfl)
          go_wp2_with fail
          refine HC.out.mono ?_; rintro _ w2 ⟨rfl, hb2⟩
          have HR2 := Aside0.mk (RowIs.below (RowIs.drew HR.out) hb2)
          have HB2 := Aside0.mk (bstep (bdrew HB.out) hb2)
          have HX2 := Aside0.mk ((HXB.out.below (bdrew (Below.refl _ _))).below hb2)
          clear hb2
          by_cases hlow : cmpBy R x' y < 0
          · have e4 : decide (cmpBy R x' y < 0) = true := by simpa using hlow
            have HS := Aside0.mk (show ∀ q, q ∈ OO.drop (k - 1) → ltBy R x' q = true by
              intro q hq
              rw [drop_cons HYO.out] at hq
              rcases List.mem_cons.1 hq with rfl | hq
              · exact e4
              · exact HP.out.up q (by rw [show k = k - 1 + 1 by have := HK.out; omega]; exact hq))
            obtain ⟨r0, r1, r2, r3, r4, r5, r6, r7, s0, s1, s2, s3, s4, s5, s6, s7⟩ := row_of HR2.out.1 hk1 hy.out
            go_wp2_with (refine bk_store (w := w) w.heap.size rfl rfl (.tmp 45) (.tmp 44) rfl k _ y (fun _ => True) rfl (by omega) rfl HR2.out.1 (by omega) HB2.out ?_; intro w3 hR3 hB3 hg3; have HR3 := Aside0.mk (show RowIs w.heap.size (fun _ => True) w1 g (i + 1) cap (C.set k y) w3 from ⟨hR3, HR2.out.2.trans hg3⟩); have HB3 := Aside0.mk hB3; clear hR3 hB3 hg3)
            go_roundg (k - 1)
            case measure => have := HK.out; omega
            exact ⟨k - 1, C.set k y, rfl, by first | go_num | (congr 1; have := HK.out; omega), ⟨⟨by omega, ⟨y, by obtain ⟨z, hz⟩ := HP.out.is; rw [hz]; exact put_step (by have := HK.out; omega) HYO.out⟩, HS.out⟩⟩, HR3, HB3⟩
          · have e4 : decide (cmpBy R x' y < 0) = false := by simpa using hlow
            have HN := Aside0.mk (put_end (k := k) hw.out hx.out (by rw [← HOO.out]; omega) (by rw [← HOO.out]; exact HP.out.up) (.inr ⟨y, by rw [← HOO.out]; exact HYO.out, e4⟩))
            obtain ⟨x0, x1, x2, x3, x4, x5, x6, x7⟩ := HX2.out
            go_wp2_with (refine bk_store (w := w) w.heap.size rfl rfl (.tmp 54) (.tmp 53) rfl k _ x' (fun _ => True) rfl (by omega) rfl HR2.out.1 (by omega) HB2.out ?_; intro w3 hR3 hB3 hg3; have HR3 := Aside0.mk hR3; have HB3 := Aside0.mk hB3; clear hR3 hB3 hg3)
            go_roundg (gO - 1)
            case measure => have := HG.out; omega
            exact ⟨i + 1, by have := HG.out; omega, by go_num, ⟨by
              have h1 := HR3.out
              obtain ⟨z, hz⟩ := HP.out.is
              rw [hz, put_set HP.out.le, HOO.out, HN.out] at h1
              exact h1⟩, HB3⟩
    · go_wp2
      go_ret
      exact ⟨_, rfl, HB.out, by have := HR.out; rw [List.take_of_length_le (by omega)] at this; exact this⟩
end Go.Proofs.YtkilblnlplfknaaGreatDoor
end
section
/- slices.Grow and slices.Concat at books; MergeBooks: the program's and the reference's. -/
namespace Go.Proofs.YtkilblnlplfknaaGreatDoor
open Go.RowKit Go.Proofs.YtkilblnlplfknaaGreatDoorW.PrintWords Go.Proofs.YtkilblnlplfknaaGreatDoorW.PrintMore
set_option linter.unusedVariables false
set_option linter.unusedSimpArgs false
set_option maxRecDepth 100000

section
variable {ops : Array Oper} {rest : List Oper} {o : Oper} {a : Act} {Q : Exit → Act → World → Prop}
/-- append(v, make([]impl.Book, n)...). -/
theorem bk_append_zeros {w W : World} (hgd : o.guard = none) (s x : Operand) (ho : o.op = .call { callee := .builtin .append, args := #[s, x], argTypes := #[24, 3] }) (v : Value) (xs : List Bk) (n : Int)
    (hs : a.eval s = v) (hx : a.eval x = .int .i64 n) (HO : kBk.R 30 W w.heap.size (fun _ => True) v xs) (h0 : 0 ≤ n) (HB : Below w.heap.size w W) (hl : xs.length + n.toNat ≤ 2097152)
    (h : ∀ v1 w1, kBk.R 30 w1 w.heap.size (fun _ => True) v1 (xs ++ List.replicate n.toNat zBk) → Below w.heap.size w w1 → wpList Tryz.prog ops Q rest (a.put o.dst v1) w1) :
    wpList Tryz.prog ops Q (o :: rest) a W :=
  Kd.R_append_zeros kBk (w0 := w) w.heap.size hgd s x 24 3 30 (.agg #[.int .i16 0, .int .u8 0, .int .u8 0, .int .u8 0, .int .i16 0, .int .i16 0, .int .i16 0, .int .i16 0]) 14 ho Tryz.underlying24 Tryz.underlying3 info_bk rfl (by decide) (by decide) v xs zBk n (fun _ => True) hs hx rfl (fun _ _ => trivial) HO h0 HB HB.size (by omega)
    (fun v1 w1 h1 h2 _ _ => h v1 w1 h1 h2)
/-- append(v, bs...). -/
theorem bk_append_rows {w W : World} (hgd : o.guard = none) (s x : Operand) (ho : o.op = .call { callee := .builtin .append, args := #[s, x], argTypes := #[24, 24] }) (v : Value) (xs : List Bk) (A : Option Addr) (m c : Nat) (ys : List Bk)
    (hs : a.eval s = v) (hx : a.eval x = .slice A m c) (HO : kBk.R 30 W w.heap.size (fun _ => True) v xs) (HL : kBk.C W A m ys) (HB : Below w.heap.size w W) (hl : xs.length + m ≤ 2097152)
    (h : ∀ v1 w1, kBk.R 30 w1 w.heap.size (fun _ => True) v1 (xs ++ ys) → Below w.heap.size w w1 → wpList Tryz.prog ops Q rest (a.put o.dst v1) w1) :
    wpList Tryz.prog ops Q (o :: rest) a W :=
  Kd.R_append_rows kBk (Rr := kBk.K W) (w0 := w) w.heap.size hgd s x 24 30 (.agg #[.int .i16 0, .int .u8 0, .int .u8 0, .int .u8 0, .int .i16 0, .int .i16 0, .int .i16 0, .int .i16 0]) 14 ho Tryz.underlying24 info_bk rfl (by decide) (by decide) v xs ys A m c (fun _ => True) (fun _ => False) hs hx HO HL (fun x cs h => h) (fun _ h => h.elim) (fun _ _ => trivial) HB HB.size (by omega)
    (fun v1 w1 h1 h2 _ _ => h v1 w1 h1 h2)
end
theorem cut_bk {n : Nat} (A : Option Addr) (c : Nat) (h : n ≤ c) (W : World) : (Instr.slice 24 (.slice A n c) none (some (.int .i64 0)) none).run Tryz.prog W = .ok (.slice A 0 c) W := by
  obtain ⟨i, hi, _⟩ := Option.map_eq_some_iff.1 info_bk
  exact cut_to 24 30 .i64 Tryz.underlying24 hi A n c 0 (by omega) (by omega) h W
theorem grow_c (n : Nat) (hn : n ≤ 2097152) (w : World) : Calls Tryz.prog 69 #[.slice none 0 0, .int .i64 n] w (RetQ w (NewBk w [])) := by
  by_cases h0 : n = 0
  · subst h0
    go_enter Tryz.func69, Tryz.ntmps69
    go_wp2_with fail
    go_ret
    exact ⟨_, rfl, Below.refl _ _, Kd.R_nil _ _ _ _ _⟩
  · have hp : 0 < n := by omega
    clear h0
    go_enter Tryz.func69, Tryz.ntmps69
    go_wp2_with (at_builtin; refine bk_append_zeros (w := w) rfl (.tmp 20) (.tmp 21) rfl _ [] (n : Int) rfl rfl (Kd.R_nil _ _ _ _ _) (by omega) (Below.refl _ _) (by simp; omega) ?_; intro v1 w1 hR hB; obtain ⟨A1, c1, rfl, hle, _⟩ := Kd.R_reads hR; rw [Int.toNat_natCast, List.nil_append, List.length_replicate] at hle hR ⊢; have hcut := cut_bk A1 c1 hle; have HR := Aside0.mk hR; have HB := Aside0.mk hB; clear hR hB)
    go_ret
    exact ⟨_, rfl, HB.out, by have := Kd.R_take (m := 0) HR.out (Nat.zero_le _); exact this⟩
theorem cat_len (LL : List SlB) (k : Nat) : ((LL.take k).flatMap SlB.L).length ≤ (LL.flatMap SlB.L).length := by
  have := congrArg (fun M => (List.flatMap SlB.L M).length) (List.take_append_drop k LL)
  simp only [List.flatMap_append, List.length_append] at this
  omega
theorem cat_next {LL : List SlB} {k : Nat} {x : SlB} (h : LL[k]? = some x) : (LL.take (k + 1)).flatMap SlB.L = (LL.take k).flatMap SlB.L ++ x.L := by
  rw [take_snoc h, List.flatMap_append]
  simp
set_option maxHeartbeats 2000000 in
theorem concat_c (A : Option Addr) (c : Nat) (LL : List SlB) (w : World) (hL : kSl.C w A LL.length LL) (hC : ∀ x, x ∈ LL → kBk.C w x.A x.L.length x.L) (hS : (LL.flatMap SlB.L).length ≤ 2097152) :
    Calls Tryz.prog 42 #[.slice A LL.length c] w (RetQ w (NewBk w (LL.flatMap SlB.L))) := by
  have hm := Kd.C_max hL
  have HL := Aside0.mk hL
  have HC := Aside0.mk hC
  have HS := Aside0.mk hS
  clear hL hC hS
  go_enter Tryz.func42, Tryz.ntmps42
  go_wp2
  go_loopg [3, 11] LL.length (fun gk v3 v11 wr => ∃ k : Nat, k + gk = LL.length ∧ v3 = .int .i64 ((LL.take k).flatMap SlB.L).length ∧ v11 = .int .i64 k ∧ Aside0 (w = wr))
  case atStart => exact ⟨0, by omega, rfl, rfl, ⟨rfl⟩⟩
  case round =>
    obtain ⟨k, hk, rfl, rfl, HW⟩ := hrel
    obtain rfl := HW.out
    have HK := Aside0.mk hk
    have h1 := cat_len LL k
    have h2 := HS.out
    by_cases hlt : k < LL.length
    · obtain ⟨ad, x, rfl, hx, hc⟩ := at_sl HL.out k hlt
      have h3 := cat_len LL (k + 1)
      have e3 := cat_next hx.out
      have HE := Aside0.mk (congrArg List.length e3)
      have h4 : ((LL.take k).flatMap SlB.L).length + x.L.length ≤ 2097152 := by rw [e3, List.length_append] at h3; omega
      have HN := Aside0.mk (show (((LL.take k).flatMap SlB.L).length : Int) + (x.L.length : Int) = (((LL.take (k + 1)).flatMap SlB.L).length : Int) by rw [e3, List.length_append]; omega)
      generalize ((LL.take k).flatMap SlB.L).length = q at h1 h4 HE HN ⊢
      clear hk e3 h3
      go_wp2_with fail
      go_roundg (gk - 1)
      case measure => have := HK.out; omega
      exact ⟨k + 1, by have := HK.out; omega, by rw [HN.out], by go_num, ⟨rfl⟩⟩
    · have hk1 : LL.take k = LL := List.take_of_length_le (by omega)
      have HG := Aside0.mk (fun (n : Nat) h => grow_c n h w)
      rw [hk1]
      generalize hq : (LL.flatMap SlB.L).length = q at HG h2 ⊢
      clear hk hk1 h1
      go_wp2_with fail
      refine (HG.out q h2).mono ?_; rintro _ w1 ⟨v, rfl, hb1, hv⟩
      have HB1 := Aside0.mk hb1
      have HV1 := Aside0.mk (show kBk.R 30 w1 w.heap.size (fun _ => True) v [] from hv)
      clear hb1 hv
      go_wp2_with fail
      obtain ⟨gO, rfl⟩ : ∃ g : Nat, g = gk := ⟨_, rfl⟩
      go_loopg [6, 27] LL.length (fun gk v6 v27 wr => ∃ k : Nat, k + gk = LL.length ∧ v27 = .int .i64 k ∧ Aside0 (kBk.R 30 wr w.heap.size (fun _ => True) v6 ((LL.take k).flatMap SlB.L)) ∧ Aside0 (Below w.heap.size w wr))
      case atStart => exact ⟨0, by omega, rfl, HV1, HB1⟩
      case round =>
        clear HB1 HV1
        obtain ⟨k, hk, rfl, HR, HB⟩ := hrel
        have HK := Aside0.mk hk
        by_cases hlt : k < LL.length
        · obtain ⟨ad, x, rfl, hx, hc⟩ := at_sl (Kd.C_below HL.out HB.out) k hlt
          have h3 := cat_len LL (k + 1)
          have HE := Aside0.mk (cat_next hx.out)
          have h4 : ((LL.take k).flatMap SlB.L).length + x.L.length ≤ 2097152 := by have := HS.out; rw [HE.out, List.length_append] at h3; omega
          have H4 := Aside0.mk h4
          clear hk h3 h4
          go_wp2_with (at_builtin; refine bk_append_rows (w := w) rfl (.tmp 31) (.tmp 32) rfl _ ((LL.take k).flatMap SlB.L) x.A _ x.c x.L rfl rfl HR.out (Kd.C_below (HC.out x (mem_of hx.out)) HB.out) HB.out H4.out ?_; intro v2 w2 hR hB; have HR2 := Aside0.mk hR; have HB2 := Aside0.mk hB; clear hR hB)
          go_roundg (gk - 1)
          case measure => have := HK.out; omega
          exact ⟨k + 1, by have := HK.out; omega, by go_num, ⟨by rw [HE.out]; exact HR2.out⟩, HB2⟩
        · have hk1 : LL.take k = LL := List.take_of_length_le (by omega)
          clear hk
          go_wp2
          go_ret
          exact ⟨_, rfl, HB.out, by have := HR.out; rw [hk1] at this; exact this⟩
def okMg (L M : List Bk) : Bool := vBooks L && vBooks M
def inMg (L M : List Bk) : Bool := isS L && isS M
def mgE (L M : List Bk) : Int := if okMg L M = true then (if inMg L M = true then (if 60 < L.length + M.length then 3 else 0) else 4) else 1
def mgV (L M : List Bk) : List Bk := if mgE L M = 0 then Srt.sortL (ltBy usualL) (L ++ M) else []
theorem mg_bad {L M : List Bk} {e : Int} (h : mgE L M = e) (he : e ≠ 0) : mgV L M = [] ∧ mgE L M = e := ⟨by unfold mgV; rw [h, if_neg he], h⟩
theorem mg_ok {L M : List Bk} (h : mgE L M = 0) : mgV L M = Srt.sortL (ltBy usualL) (L ++ M) ∧ mgE L M = 0 := ⟨by unfold mgV; rw [h, if_pos rfl], h⟩
theorem mg_valid {L M : List Bk} (h : mgE L M = 0) : vBooks (L ++ M) = true ∧ vBooks L = true ∧ vBooks M = true := by
  unfold mgE at h
  by_cases h1 : okMg L M = true
  · rw [if_pos h1] at h
    by_cases h2 : inMg L M = true
    · rw [if_pos h2] at h
      by_cases h3 : 60 < L.length + M.length
      · rw [if_pos h3] at h; cases h
      · obtain ⟨h4, h5⟩ := Bool.and_eq_true_iff.1 h1
        refine ⟨?_, h4, h5⟩
        unfold vBooks at h4 h5 ⊢
        obtain ⟨_, h6⟩ := Bool.and_eq_true_iff.1 h4
        obtain ⟨_, h7⟩ := Bool.and_eq_true_iff.1 h5
        rw [List.all_append, h6, h7, List.length_append, decide_eq_true (by omega)]
        rfl
    · rw [if_neg h2] at h; cases h
  · rw [if_neg h1] at h; cases h
theorem mgV_len (L M : List Bk) : (mgV L M).length ≤ 2097152 := by
  unfold mgV
  split
  · rename_i h
    have := vBooks_len (mg_valid h).1
    rw [sortL_len (ltBy_wk usualL)]
    omega
  · simp
theorem okSort_usual {L : List Bk} (h : vBooks L = true) : sortV usualL L = Srt.sortL (ltBy usualL) L ∧ sortE usualL L = 0 := sort_good (by unfold okSort; rw [h, Bool.and_true]; decide)
theorem sCodes_two (x y : SlB) : sCodes [x, y] = if okMg x.L y.L = true then (if inMg x.L y.L = true then 0 else 4) else 1 := by simp [sCodes, okMg, inMg]
theorem sorted2_c (A0 A1 : Option Addr) (c0 c1 : Nat) (L M : List Bk) (w : World) (hL : kBk.C w A0 L.length L) (hM : kBk.C w A1 M.length M) :
    Calls Tryz.prog 28 #[.slice (some ⟨w.heap.size, 0, none⟩) 2 2] (w.alloc (.cells #[.slice A0 L.length c0, .slice A1 M.length c1] 24)) (Ret (w.alloc (.cells #[.slice A0 L.length c0, .slice A1 M.length c1] 24)) (.int .i64 (if okMg L M = true then (if inMg L M = true then 0 else 4) else 1))) := by
  have h := sortedCode_c (some ⟨w.heap.size, 0, none⟩) 2 [⟨A0, c0, L⟩, ⟨A1, c1, M⟩] _ (box_Sl w [⟨A0, c0, L⟩, ⟨A1, c1, M⟩] (by simp)) (fun x hx => by
    rcases List.mem_cons.1 hx with rfl | hx
    · exact Kd.C_alloc hL _
    · rw [List.mem_singleton.1 hx]; exact Kd.C_alloc hM _)
  rw [sCodes_two] at h
  exact h
theorem concat2_c (A0 A1 : Option Addr) (c0 c1 : Nat) (L M : List Bk) (w : World) (hL : kBk.C w A0 L.length L) (hM : kBk.C w A1 M.length M) (hs : L.length + M.length ≤ 60) :
    Calls Tryz.prog 42 #[.slice (some ⟨w.heap.size, 0, none⟩) 2 2] (w.alloc (.cells #[.slice A0 L.length c0, .slice A1 M.length c1] 24)) (RetQ (w.alloc (.cells #[.slice A0 L.length c0, .slice A1 M.length c1] 24)) (NewBk (w.alloc (.cells #[.slice A0 L.length c0, .slice A1 M.length c1] 24)) (L ++ M))) := by
  have h := concat_c (some ⟨w.heap.size, 0, none⟩) 2 [⟨A0, c0, L⟩, ⟨A1, c1, M⟩] _ (box_Sl w [⟨A0, c0, L⟩, ⟨A1, c1, M⟩] (by simp)) (fun x hx => by
    rcases List.mem_cons.1 hx with rfl | hx
    · exact Kd.C_alloc hL _
    · rw [List.mem_singleton.1 hx]; exact Kd.C_alloc hM _) (by simp; omega)
  have e : ([⟨A0, c0, L⟩, ⟨A1, c1, M⟩] : List SlB).flatMap SlB.L = L ++ M := by simp
  rw [e] at h
  exact h
theorem sortU_c (g : Nat) (A1 : Option Addr) (c1 : Nat) (L R : List Bk) (e : Int) (hR : sortV usualL L = R) (he : sortE usualL L = e) (w : World) (hO : (Kd.int .i8).C w (some ⟨g, 0, none⟩) usualL.length usualL) (hL : kBk.C w A1 L.length L) :
    Calls Tryz.prog 40 #[.slice (some ⟨g, 0, none⟩) 3 3, .slice A1 L.length c1] w (RetQ w (TupB w R e)) := by
  subst hR he
  exact SortBooks_c (some ⟨g, 0, none⟩) A1 3 c1 usualL L w hO usualL_ok hL
set_option maxHeartbeats 2000000 in
theorem MergeBooks_c (A0 A1 : Option Addr) (c0 c1 : Nat) (L M : List Bk) (w : World) (hL : kBk.C w A0 L.length L) (hM : kBk.C w A1 M.length M) :
    Calls Tryz.prog 13 #[.slice A0 L.length c0, .slice A1 M.length c1] w (RetQ w (TupB w (mgV L M) (mgE L M))) := by
  have hm0 := Kd.C_max hL
  have hm1 := Kd.C_max hM
  have HB := Aside0.mk (balloc (Below.refl w.heap.size w) (.cells #[.slice A0 L.length c0, .slice A1 M.length c1] 24))
  have HL := Aside0.mk hL
  have HM := Aside0.mk hM
  have HS := Aside0.mk (sorted2_c A0 A1 c0 c1 L M w hL hM)
  clear hL hM
  by_cases h1 : okMg L M = true
  · obtain ⟨h4, h5⟩ := Bool.and_eq_true_iff.1 h1
    have hl0 := vBooks_len h4
    have hl1 := vBooks_len h5
    clear h4 h5
    by_cases h2 : inMg L M = true
    · rw [if_pos h1, if_pos h2] at HS
      by_cases h3 : 60 < L.length + M.length
      · have HE := Aside0.mk (mg_bad (L := L) (M := M) (e := 3) (by unfold mgE; rw [if_pos h1, if_pos h2, if_pos h3]) (by decide))
        clear h1 h2
        go_enter Tryz.func13, Tryz.ntmps13
        go_wp2_with fail
        refine HS.out.mono ?_; rintro _ w1 ⟨rfl, hb1⟩
        have HB1 := Aside0.mk (bstep HB.out hb1)
        clear hb1
        go_wp2_with fail
        go_ret2
        rw [HE.out.1, HE.out.2]
        exact ⟨_, rfl, HB1.out, _, rfl, Kd.R_nil _ _ _ _ _⟩
      · have hE : mgE L M = 0 := by unfold mgE; rw [if_pos h1, if_pos h2, if_neg h3]
        have HE := Aside0.mk (mg_ok hE)
        have HOS := Aside0.mk (okSort_usual (mg_valid hE).1)
        have HCC := Aside0.mk (fun (W : World) (a : kBk.C W A0 L.length L) (b : kBk.C W A1 M.length M) => concat2_c A0 A1 c0 c1 L M W a b (by omega))
        obtain ⟨LM, hLM⟩ : ∃ LM, L ++ M = LM := ⟨_, rfl⟩
        rw [hLM] at HCC HE HOS
        clear hLM
        clear h1 h2 hE
        go_enter Tryz.func13, Tryz.ntmps13
        go_wp2_with fail
        refine HS.out.mono ?_; rintro _ w1 ⟨rfl, hb1⟩
        have HB1 := Aside0.mk (bstep HB.out hb1)
        clear hb1
        go_wp2_with fail
        refine (usual_c w1).mono ?_; rintro _ w2 ⟨v, rfl, hb2, g, rfl, hu⟩
        have HB2 := Aside0.mk (bstep HB1.out hb2)
        have HB3 := Aside0.mk (balloc HB2.out (.cells #[.slice A0 L.length c0, .slice A1 M.length c1] 24))
        have HU := Aside0.mk (Kd.C_alloc hu (.cells #[.slice A0 L.length c0, .slice A1 M.length c1] 24))
        clear hb2 hu
        go_wp2_with fail
        refine (HCC.out w2 (Kd.C_below HL.out HB2.out) (Kd.C_below HM.out HB2.out)).mono ?_; rintro _ w3 ⟨v, rfl, hb3, hv⟩
        have HB4 := Aside0.mk (bstep HB3.out hb3)
        have HU3 := Aside0.mk (Kd.C_below HU.out hb3)
        obtain ⟨A3, c3, rfl, hc3, hC3⟩ := NewBk.open hv
        clear hb3 hv hc3
        go_wp2_with fail
        refine (sortU_c g A3 c3 LM _ _ HOS.out.1 HOS.out.2 w3 HU3.out hC3.out).mono ?_; rintro _ w4 ⟨v, rfl, hb4, v2, rfl, hv2⟩
        have HB5 := Aside0.mk (bstep HB4.out hb4)
        have HV5 := Aside0.mk (show NewBk w (Srt.sortL (ltBy usualL) LM) v2 w4 from Kd.R_lower hv2 HB4.out.size)
        clear hb4 hv2
        go_wp2_with fail
        go_ret2
        rw [HE.out.1, HE.out.2]
        exact ⟨_, rfl, HB5.out, _, rfl, HV5.out⟩
    · rw [if_pos h1, if_neg h2] at HS
      have HE := Aside0.mk (mg_bad (L := L) (M := M) (e := 4) (by unfold mgE; rw [if_pos h1, if_neg h2]) (by decide))
      clear h1 h2
      go_enter Tryz.func13, Tryz.ntmps13
      go_wp2_with fail
      refine HS.out.mono ?_; rintro _ w1 ⟨rfl, hb1⟩
      have HB1 := Aside0.mk (bstep HB.out hb1)
      clear hb1
      go_wp2_with fail
      go_ret2
      rw [HE.out.1, HE.out.2]
      exact ⟨_, rfl, HB1.out, _, rfl, Kd.R_nil _ _ _ _ _⟩
  · rw [if_neg h1] at HS
    have HE := Aside0.mk (mg_bad (L := L) (M := M) (e := 1) (by unfold mgE; rw [if_neg h1]) (by decide))
    clear h1
    go_enter Tryz.func13, Tryz.ntmps13
    go_wp2_with fail
    refine HS.out.mono ?_; rintro _ w1 ⟨rfl, hb1⟩
    have HB1 := Aside0.mk (bstep HB.out hb1)
    clear hb1
    go_wp2_with fail
    go_ret2
    rw [HE.out.1, HE.out.2]
    exact ⟨_, rfl, HB1.out, _, rfl, Kd.R_nil _ _ _ _ _⟩
theorem sortedU_c (g : Nat) (A1 : Option Addr) (c1 : Nat) (L : List Bk) (w : World) (hO : (Kd.int .i8).C w (some ⟨g, 0, none⟩) usualL.length usualL) (hL : kBk.C w A1 L.length L) (hok : OkL L) (hn : L.length ≤ 60) :
    Calls Tryz.prog 24 #[.slice (some ⟨g, 0, none⟩) 3 3, .slice A1 L.length c1] w (RetQ w (NewBk w (Srt.sortL (ltBy usualL) L))) :=
  l01Sorted_c (some ⟨g, 0, none⟩) A1 3 c1 usualL L w hO usualL_ord hL hok hn
set_option maxHeartbeats 2000000 in
theorem specMergeBooks_c (A0 A1 : Option Addr) (c0 c1 : Nat) (L M : List Bk) (hok0 : OkL L) (hok1 : OkL M) (w : World) (hL : kBk.C w A0 L.length L) (hM : kBk.C w A1 M.length M) :
    Calls Tryz.prog 14 #[.slice A0 L.length c0, .slice A1 M.length c1] w (RetQ w (TupB w (mgV L M) (mgE L M))) := by
  have hm0 := Kd.C_max hL
  have hm1 := Kd.C_max hM
  have HB0 := Aside0.mk (Below.refl w.heap.size w)
  have HL := Aside0.mk hL
  have HM := Aside0.mk hM
  have HVL := Aside0.mk (fun W h => l01Ok_c A0 c0 L hok0 W h)
  have HVM := Aside0.mk (fun W h => l01Ok_c A1 c1 M hok1 W h)
  have HOL := Aside0.mk (fun W h => l01Out_c A0 c0 L W h hok0)
  have HOM := Aside0.mk (fun W h => l01Out_c A1 c1 M W h hok1)
  have HKL := Aside0.mk hok0
  have HKM := Aside0.mk hok1
  clear hL hM hok0 hok1
  cases h1 : vBooks L
  · rw [h1] at HVL
    have HE := Aside0.mk (mg_bad (L := L) (M := M) (e := 1) (by unfold mgE okMg; rw [h1]; rfl) (by decide))
    clear h1
    go_enter Tryz.func14, Tryz.ntmps14
    go_wp2_with fail
    refine (HVL.out _ (Kd.C_below HL.out HB0.out)).mono ?_; rintro _ w1 ⟨rfl, hb1⟩
    have HB1 := Aside0.mk (bstep HB0.out hb1)
    clear hb1
    have HZ := Aside0.mk (R_zero kBk 30 w1 w.heap.size (fun _ => True) HB1.out.size trivial)
    have HBZ := Aside0.mk (balloc HB1.out (.cells #[] 30))
    go_wp2_with fail
    go_ret2
    rw [HE.out.1, HE.out.2]
    exact ⟨_, rfl, HBZ.out, _, rfl, HZ.out⟩
  · rw [h1] at HVL
    have hl0 := vBooks_len h1
    cases h2 : vBooks M
    · rw [h2] at HVM
      have HE := Aside0.mk (mg_bad (L := L) (M := M) (e := 1) (by unfold mgE okMg; rw [h1, h2]; rfl) (by decide))
      clear h1 h2
      go_enter Tryz.func14, Tryz.ntmps14
      go_wp2_with fail
      refine (HVL.out _ (Kd.C_below HL.out HB0.out)).mono ?_; rintro _ w1 ⟨rfl, hb1⟩
      have HB1 := Aside0.mk (bstep HB0.out hb1)
      clear hb1
      go_wp2_with fail
      refine (HVM.out _ (Kd.C_below HM.out HB1.out)).mono ?_; rintro _ w2 ⟨rfl, hb2⟩
      have HB2 := Aside0.mk (bstep HB1.out hb2)
      clear hb2
      have HZ := Aside0.mk (R_zero kBk 30 w2 w.heap.size (fun _ => True) HB2.out.size trivial)
      have HBZ := Aside0.mk (balloc HB2.out (.cells #[] 30))
      go_wp2_with fail
      go_ret2
      rw [HE.out.1, HE.out.2]
      exact ⟨_, rfl, HBZ.out, _, rfl, HZ.out⟩
    · rw [h2] at HVM
      have hl1 := vBooks_len h2
      by_cases h3 : outOf L < 0
      · by_cases h4 : outOf M < 0
        · by_cases h5 : 60 < L.length + M.length
          · have HE := Aside0.mk (mg_bad (L := L) (M := M) (e := 3) (by unfold mgE okMg inMg isS; rw [h1, h2, decide_eq_true h3, decide_eq_true h4]; simp [h5]) (by decide))
            generalize outOf L = ol at HOL h3
            generalize outOf M = om at HOM h4
            clear h1 h2
            go_enter Tryz.func14, Tryz.ntmps14
            go_wp2_with fail
            refine (HVL.out _ (Kd.C_below HL.out HB0.out)).mono ?_; rintro _ w1 ⟨rfl, hb1⟩
            have HB1 := Aside0.mk (bstep HB0.out hb1)
            clear hb1
            go_wp2_with fail
            refine (HVM.out _ (Kd.C_below HM.out HB1.out)).mono ?_; rintro _ w2 ⟨rfl, hb2⟩
            have HB2 := Aside0.mk (bstep HB1.out hb2)
            clear hb2
            go_wp2_with fail
            refine (HOL.out _ (Kd.C_below HL.out HB2.out)).mono ?_; rintro _ w3 ⟨rfl, hb3⟩
            have HB3 := Aside0.mk (bstep HB2.out hb3)
            clear hb3
            go_wp2_with fail
            refine (HOM.out _ (Kd.C_below HM.out HB3.out)).mono ?_; rintro _ w4 ⟨rfl, hb4⟩
            have HB4 := Aside0.mk (bstep HB3.out hb4)
            clear hb4
            have HZ := Aside0.mk (R_zero kBk 30 w4 w.heap.size (fun _ => True) HB4.out.size trivial)
            have HBZ := Aside0.mk (balloc HB4.out (.cells #[] 30))
            go_wp2_with fail
            go_ret2
            rw [HE.out.1, HE.out.2]
            exact ⟨_, rfl, HBZ.out, _, rfl, HZ.out⟩
          · have hE : mgE L M = 0 := by unfold mgE okMg inMg isS; rw [h1, h2, decide_eq_true h3, decide_eq_true h4]; simp; omega
            have HE := Aside0.mk (mg_ok hE)
            have HN := Aside0.mk (vBooks_len (mg_valid hE).1)
            have HOK := Aside0.mk (show OkL (L ++ M) from fun b hb => (List.mem_append.1 hb).elim (HKL.out b) (HKM.out b))
            obtain ⟨LM, hLM⟩ : ∃ LM, L ++ M = LM := ⟨_, rfl⟩
            rw [hLM] at HN HE HOK
            have HLM := Aside0.mk hLM
            clear hE hLM h1 h2
            generalize outOf L = ol at HOL h3
            generalize outOf M = om at HOM h4
            go_enter Tryz.func14, Tryz.ntmps14
            go_wp2_with fail
            refine (HVL.out _ (Kd.C_below HL.out HB0.out)).mono ?_; rintro _ w1 ⟨rfl, hb1⟩
            have HB1 := Aside0.mk (bstep HB0.out hb1)
            clear hb1
            go_wp2_with fail
            refine (HVM.out _ (Kd.C_below HM.out HB1.out)).mono ?_; rintro _ w2 ⟨rfl, hb2⟩
            have HB2 := Aside0.mk (bstep HB1.out hb2)
            clear hb2
            go_wp2_with fail
            refine (HOL.out _ (Kd.C_below HL.out HB2.out)).mono ?_; rintro _ w3 ⟨rfl, hb3⟩
            have HB3 := Aside0.mk (bstep HB2.out hb3)
            clear hb3
            go_wp2_with fail
            refine (HOM.out _ (Kd.C_below HM.out HB3.out)).mono ?_; rintro _ w4 ⟨rfl, hb4⟩
            have HB4 := Aside0.mk (bstep HB3.out hb4)
            clear hb4
            go_wp2_with (at_builtin; first | (refine bk_append_all (w := w) rfl (.tmp 32) (.tmp 33) rfl A0 _ c0 L rfl rfl (Kd.C_below HL.out HB4.out) HB4.out (by omega) ?_; intro v1 w5 hR hB; have HR5 := Aside0.mk hR; have HB5 := Aside0.mk hB; clear hR hB) | (refine bk_append_rows (w := w) rfl (.tmp 34) (.tmp 35) rfl _ L A1 _ c1 M rfl rfl HR5.out (Kd.C_below HM.out HB5.out) HB5.out (by omega) ?_; intro v2 w6 hR hB; rw [HLM.out] at hR; have HR6 := Aside0.mk (show NewBk w LM v2 w6 from hR); have HB6 := Aside0.mk hB; clear hR hB))
            obtain ⟨A6, c6, rfl, hc6, hC6⟩ := NewBk.open HR6.out
            have HB7 := Aside0.mk (balloc HB6.out (.cells #[.int .i8 1, .int .i8 2, .int .i8 3] 57))
            have hu := three_C (w6.alloc (.cells #[.int .i8 1, .int .i8 2, .int .i8 3] 57)) w6.heap.size 0 1 2 3 ((blk_cell (blk_new w6 _) 0).trans rfl) ((blk_cell (blk_new w6 _) 1).trans rfl) ((blk_cell (blk_new w6 _) 2).trans rfl)
            refine (sortedU_c w6.heap.size A6 c6 LM _ hu (Kd.C_alloc hC6.out _) HOK.out HN.out).mono ?_; rintro _ w7 ⟨v, rfl, hb7, hv⟩
            have HB8 := Aside0.mk (bstep HB7.out hb7)
            have HV8 := Aside0.mk (show NewBk w (Srt.sortL (ltBy usualL) LM) v w7 from Kd.R_lower hv HB7.out.size)
            clear hb7 hv hu
            go_wp2_with fail
            go_ret2
            rw [HE.out.1, HE.out.2]
            exact ⟨_, rfl, HB8.out, _, rfl, HV8.out⟩
        · have HE := Aside0.mk (mg_bad (L := L) (M := M) (e := 4) (by unfold mgE okMg inMg isS; rw [h1, h2, decide_eq_true h3, decide_eq_false h4]; rfl) (by decide))
          generalize outOf L = ol at HOL h3
          generalize outOf M = om at HOM h4
          clear h1 h2
          go_enter Tryz.func14, Tryz.ntmps14
          go_wp2_with fail
          refine (HVL.out _ (Kd.C_below HL.out HB0.out)).mono ?_; rintro _ w1 ⟨rfl, hb1⟩
          have HB1 := Aside0.mk (bstep HB0.out hb1)
          clear hb1
          go_wp2_with fail
          refine (HVM.out _ (Kd.C_below HM.out HB1.out)).mono ?_; rintro _ w2 ⟨rfl, hb2⟩
          have HB2 := Aside0.mk (bstep HB1.out hb2)
          clear hb2
          go_wp2_with fail
          refine (HOL.out _ (Kd.C_below HL.out HB2.out)).mono ?_; rintro _ w3 ⟨rfl, hb3⟩
          have HB3 := Aside0.mk (bstep HB2.out hb3)
          clear hb3
          go_wp2_with fail
          refine (HOM.out _ (Kd.C_below HM.out HB3.out)).mono ?_; rintro _ w4 ⟨rfl, hb4⟩
          have HB4 := Aside0.mk (bstep HB3.out hb4)
          clear hb4
          have HZ := Aside0.mk (R_zero kBk 30 w4 w.heap.size (fun _ => True) HB4.out.size trivial)
          have HBZ := Aside0.mk (balloc HB4.out (.cells #[] 30))
          go_wp2_with fail
          go_ret2
          rw [HE.out.1, HE.out.2]
          exact ⟨_, rfl, HBZ.out, _, rfl, HZ.out⟩
      · have HE := Aside0.mk (mg_bad (L := L) (M := M) (e := 4) (by unfold mgE okMg inMg isS; rw [h1, h2, decide_eq_false h3]; rfl) (by decide))
        generalize outOf L = ol at HOL h3
        clear h1 h2
        go_enter Tryz.func14, Tryz.ntmps14
        go_wp2_with fail
        refine (HVL.out _ (Kd.C_below HL.out HB0.out)).mono ?_; rintro _ w1 ⟨rfl, hb1⟩
        have HB1 := Aside0.mk (bstep HB0.out hb1)
        clear hb1
        go_wp2_with fail
        refine (HVM.out _ (Kd.C_below HM.out HB1.out)).mono ?_; rintro _ w2 ⟨rfl, hb2⟩
        have HB2 := Aside0.mk (bstep HB1.out hb2)
        clear hb2
        go_wp2_with fail
        refine (HOL.out _ (Kd.C_below HL.out HB2.out)).mono ?_; rintro _ w3 ⟨rfl, hb3⟩
        have HB3 := Aside0.mk (bstep HB2.out hb3)
        clear hb3
        have HZ := Aside0.mk (R_zero kBk 30 w3 w.heap.size (fun _ => True) HB3.out.size trivial)
        have HBZ := Aside0.mk (balloc HB3.out (.cells #[] 30))
        go_wp2_with fail
        go_ret2
        rw [HE.out.1, HE.out.2]
        exact ⟨_, rfl, HBZ.out, _, rfl, HZ.out⟩
end Go.Proofs.YtkilblnlplfknaaGreatDoor
end
section
/- PairsOut: the program's and the reference's. -/
namespace Go.Proofs.YtkilblnlplfknaaGreatDoor
open Go.RowKit Go.Proofs.YtkilblnlplfknaaGreatDoorW.PrintWords Go.Proofs.YtkilblnlplfknaaGreatDoorW.PrintMore
set_option linter.unusedVariables false
set_option linter.unusedSimpArgs false
set_option maxRecDepth 100000

def pairsV (L : List Bk) : Int := if vBooks L = true then pairsL L else 0
theorem pairsN_60 {L : List Bk} {k : Nat} (h : L.length ≤ 60) (hk : k ≤ L.length) : pairsN L k ≤ 3600 := by
  have h1 := pairsN_le L k
  have h2 : L.length * k ≤ 60 * 60 := Nat.mul_le_mul h (by omega)
  omega
end Go.Proofs.YtkilblnlplfknaaGreatDoor
end
section
/- LongestRun: the program's and the reference's. -/
namespace Go.Proofs.YtkilblnlplfknaaGreatDoor
open Go.RowKit Go.Proofs.YtkilblnlplfknaaGreatDoorW.PrintWords Go.Proofs.YtkilblnlplfknaaGreatDoorW.PrintMore
set_option linter.unusedVariables false
set_option linter.unusedSimpArgs false
set_option maxRecDepth 100000

def longF (L : List Bk) : Int := if vBooks L = true ∧ L.length ≠ 0 then (longest L).1 else 0
def longM (L : List Bk) : Int := if vBooks L = true ∧ L.length ≠ 0 then (longest L).2 else 0
def longE (L : List Bk) : Int := if vBooks L = true then (if L.length = 0 then 6 else 0) else 1
theorem long_bad {L : List Bk} (h : vBooks L = false) : longF L = 0 ∧ longM L = 0 ∧ longE L = 1 := by
  unfold longF longM longE; rw [h]; simp
theorem long_none {L : List Bk} (h : vBooks L = true) (h0 : L.length = 0) : longF L = 0 ∧ longM L = 0 ∧ longE L = 6 := by
  unfold longF longM longE; rw [h]; simp [h0]
theorem long_some {L : List Bk} (h : vBooks L = true) (h0 : L.length ≠ 0) : longF L = (longest L).1 ∧ longM L = (longest L).2 ∧ longE L = 0 := by
  unfold longF longM longE; rw [h]; simp [h0]
theorem own_bound {L : List Bk} (h : L.length ≤ 60) : ∀ x ∈ runsL L ++ [(L.length : Int)], 0 ≤ x ∧ x ≤ 60 := by
  intro x hx
  rcases List.mem_append.1 hx with hx | hx
  · have := runsN_mem hx; omega
  · rw [List.mem_singleton.1 hx]; omega
theorem wrap_sub {a b : Int} (ha : 0 ≤ a ∧ a ≤ 60) (hb : 0 ≤ b ∧ b ≤ 60) : IntKind.i64.wrap (b - a) = b - a := by
  simp only [IntKind.wrap, IntKind.bits, IntKind.signed, Bool.true_and, decide_eq_true_eq, ge_iff_le]; split <;> omega
theorem wrap_small {a : Int} (h : -1000000000 ≤ a ∧ a ≤ 1000000000) : IntKind.i64.wrap a = a := by
  simp only [IntKind.wrap, IntKind.bits, IntKind.signed, Bool.true_and, decide_eq_true_eq, ge_iff_le]; split <;> omega
theorem add_succ (ad : Addr) (k : Nat) : ad.add (k + 1) = ⟨ad.block, ad.off + (k + 1), none⟩ := by simp [Addr.add]
end Go.Proofs.YtkilblnlplfknaaGreatDoor
end
section
/- The totals of a row of books: the program's totals. -/
namespace Go.Proofs.YtkilblnlplfknaaGreatDoor
open Go.RowKit Go.Proofs.YtkilblnlplfknaaGreatDoorW.PrintWords Go.Proofs.YtkilblnlplfknaaGreatDoorW.PrintMore
set_option linter.unusedVariables false
set_option linter.unusedSimpArgs false
set_option maxRecDepth 100000

structure T3 where
  x : Int
  y : Int
  z : Int
def mx (x y : Int) : Int := if x < y then y else x
def T3.step (t : T3) (b : Bk) : T3 := ⟨wrap64 (t.x + b.wd), mx t.y b.h, wrap64 (t.z + b.wt)⟩
def T3.cells (t : T3) : Array Value := #[.int .i64 t.x, .int .i64 t.y, .int .i64 t.z]
def totL (L : List Bk) : T3 := L.foldl T3.step ⟨0, 0, 0⟩
theorem totL_next {L : List Bk} {k : Nat} {b : Bk} (h : L[k]? = some b) : totL (L.take (k + 1)) = (totL (L.take k)).step b := by
  unfold totL
  rw [take_snoc h, List.foldl_append]
  rfl
set_option maxHeartbeats 4000000 in
theorem totals_c (A : Option Addr) (c : Nat) (L : List Bk) (hok : ∀ b ∈ L, b.ok) (w : World) (hL : kBk.C w A L.length L) : Calls Tryz.prog 49 #[.slice A L.length c] w (Ret w (.agg (totL L).cells)) := by
  have hm := Kd.C_max hL
  have HL := Aside0.mk hL
  have HO := Aside0.mk hok
  clear hL hok
  go_enter Tryz.func49, Tryz.ntmps49
  go_wp2
  have hb1 := blk_alloc (blk_new w (.cells #[.int .i64 0, .int .i64 0, .int .i64 0] 45)) (.cells #[.int .i64 0, .int .i64 0, .int .i64 0] 45)
  have hb2 := blk_new (w.alloc (.cells #[.int .i64 0, .int .i64 0, .int .i64 0] 45)) (.cells #[.int .i64 0, .int .i64 0, .int .i64 0] 45)
  rw [World.size_alloc] at hb2
  have H1 := Aside0.mk hb1
  have H2 := Aside0.mk hb2
  have HB := Aside0.mk (balloc (balloc (Below.refl w.heap.size w) (.cells #[.int .i64 0, .int .i64 0, .int .i64 0] 45)) (.cells #[.int .i64 0, .int .i64 0, .int .i64 0] 45))
  clear hb1 hb2
  generalize World.alloc (World.alloc w _) _ = w2 at H1 H2 HB ⊢
  go_loopg [8] L.length (fun gk v wr => ∃ k : Nat, k + gk = L.length ∧ v = .int .i64 k ∧ Aside0 (wr.heap[w.heap.size]? = some (.cells #[.int .i64 0, .int .i64 0, .int .i64 0] 45 (0, 0))) ∧ Aside0 (wr.heap[w.heap.size + 1]? = some (.cells (totL (L.take k)).cells 45 (0, 0))) ∧ Aside0 (Below w.heap.size w wr))
  case atStart => exact ⟨0, by omega, rfl, H1, ⟨H2.out⟩, HB⟩
  case round =>
    clear H1 H2 HB
    obtain ⟨k, hk, rfl, H1, H2, HB⟩ := hrel
    have HK := Aside0.mk hk
    by_cases hlt : k < L.length
    · obtain ⟨ad, b, rfl, hbk, x0, x1, x2, x3, x4, x5, x6, x7⟩ := at_bk (Kd.C_below HL.out HB.out) k hlt
      have HN := Aside0.mk (totL_next hbk.out)
      obtain ⟨⟨i0, i0'⟩, ⟨i1, i1'⟩, ⟨i2, i2'⟩, ⟨i3, i3'⟩, ⟨i4, i4'⟩, ⟨i5, i5'⟩, ⟨i6, i6'⟩, i7, i7'⟩ := HO.out b (mem_of hbk.out)
      generalize totL (L.take k) = t at H2 HN
      have hl2 := blk_lt H2.out
      have c0 := blk_cell H2.out 0
      have c1 := blk_cell H2.out 1
      have c2 := blk_cell H2.out 2
      have f0 := blk_frozen H2.out 0
      have f1 := blk_frozen H2.out 1
      have f2 := blk_frozen H2.out 2
      simp only [T3.cells, List.getElem?_toArray, List.getElem?_cons_zero, List.getElem?_cons_succ] at c0 c1 c2
      clear hk
      go_wp2
      all_goals
        (go_roundg (gk - 1)
         case measure => have := HK.out; omega
         case rel =>
           refine ⟨k + 1, by have := HK.out; omega, by go_num, ⟨?_⟩, ⟨?_⟩, ⟨?_⟩⟩
           · exact blk_alloc (blk_far (blk_far (blk_far H1.out (by simp) _) (by simp) _) (by simp) _) _
           · rw [HN.out]
             refine blk_alloc (blk_put (blk_put (blk_put H2.out 0 _ rfl) 1 _ rfl) 2 _ ?_) _
             simp [T3.cells, T3.step, mx]
             omega
           · exact balloc (Below.setCell (Below.setCell (Below.setCell HB.out (by simp) _) (by simp) _) (by simp) _) _)
    · have HE := Aside0.mk (show totL (L.take k) = totL L by rw [List.take_of_length_le (by omega)])
      rw [HE.out] at H2
      clear hk
      obtain ⟨t, ht⟩ : ∃ t, totL L = t := ⟨_, rfl⟩
      rw [ht] at H2
      have HT := Aside0.mk ht
      clear ht
      have hl2 := blk_lt H2.out
      have c0 := blk_cell H2.out 0
      have c1 := blk_cell H2.out 1
      have c2 := blk_cell H2.out 2
      have d0 := blk_cell H1.out 0
      have d1 := blk_cell H1.out 1
      have d2 := blk_cell H1.out 2
      have f0 := blk_frozen H1.out 0
      have f1 := blk_frozen H1.out 1
      have f2 := blk_frozen H1.out 2
      simp only [T3.cells, List.getElem?_toArray, List.getElem?_cons_zero, List.getElem?_cons_succ] at c0 c1 c2 d0 d1 d2
      go_wp2
      have hz := blk_put (blk_put (blk_put H1.out 0 (.int .i64 t.x) rfl) 1 (.int .i64 t.y) rfl) 2 (.int .i64 t.z) rfl
      have hB := Below.setCell (Below.setCell (Below.setCell HB.out (p := ⟨w.heap.size, 0, none⟩) (Nat.le_refl _) (.int .i64 t.x)) (p := ⟨w.heap.size, 1, none⟩) (Nat.le_refl _) (.int .i64 t.y)) (p := ⟨w.heap.size, 2, none⟩) (Nat.le_refl _) (.int .i64 t.z)
      generalize World.setCell (World.setCell (World.setCell wr _ _) _ _) _ _ = w3 at hz hB ⊢
      have g0 := blk_cell hz 0
      have g1 := blk_cell hz 1
      have g2 := blk_cell hz 2
      simp at g0 g1 g2
      exact bodyPost_ret (v := .agg #[.int .i64 t.x, .int .i64 t.y, .int .i64 t.z]) (by simp [results, Tryz.results49, go_sem, g0, g1, g2]) rfl ⟨by rw [HT.out]; rfl, hB⟩
/-- A store of three numbers into a block of three. -/
theorem put3 {w : World} {g : Nat} {cs : Array Value} {t : TypeId} (h : w.heap[g]? = some (.cells cs t (0, 0))) (hs : cs.size = 3) (a b c : Value) :
    (((w.setCell ⟨g, 0, none⟩ a).setCell ⟨g, 1, none⟩ b).setCell ⟨g, 2, none⟩ c).heap[g]? = some (.cells #[a, b, c] t (0, 0)) := by
  obtain ⟨l⟩ := cs
  match l, hs with
  | [x, y, z], _ => exact blk_put (blk_put (blk_put h 0 a rfl) 1 b rfl) 2 c rfl
theorem below3 {B : Nat} {w0 w : World} (h : Below B w0 w) {g : Nat} (hg : B ≤ g) (a b c : Value) : Below B w0 (((w.setCell ⟨g, 0, none⟩ a).setCell ⟨g, 1, none⟩ b).setCell ⟨g, 2, none⟩ c) :=
  Below.setCell (Below.setCell (Below.setCell h (p := ⟨g, 0, none⟩) hg a) (p := ⟨g, 1, none⟩) hg b) (p := ⟨g, 2, none⟩) hg c
end Go.Proofs.YtkilblnlplfknaaGreatDoor
end
section
/- The totals of a row of books: the program's. -/
namespace Go.Proofs.YtkilblnlplfknaaGreatDoor
open Go.RowKit Go.Proofs.YtkilblnlplfknaaGreatDoorW.PrintWords Go.Proofs.YtkilblnlplfknaaGreatDoorW.PrintMore
set_option linter.unusedVariables false
set_option linter.unusedSimpArgs false
set_option maxRecDepth 100000

def totV (L : List Bk) : T3 := if vBooks L then totL L else ⟨0, 0, 0⟩
theorem totV_t {L : List Bk} (h : vBooks L = true) : totV L = totL L := by unfold totV; rw [if_pos h]
theorem totV_f {L : List Bk} (h : vBooks L = false) : totV L = ⟨0, 0, 0⟩ := by unfold totV; rw [h]; rfl
set_option maxHeartbeats 4000000 in
theorem TotalsOf_c (A : Option Addr) (c : Nat) (L : List Bk) (hok : ∀ b ∈ L, b.ok) (w : World) (hL : kBk.C w A L.length L) : Calls Tryz.prog 19 #[.slice A L.length c] w (Ret w (.tuple #[.agg (totV L).cells, .int .i64 (eV L)])) := by
  have H0 := Aside0.mk (blk_new w (.cells #[.int .i64 0, .int .i64 0, .int .i64 0] 45))
  have HB := Aside0.mk (balloc (Below.refl w.heap.size w) (.cells #[.int .i64 0, .int .i64 0, .int .i64 0] 45))
  have hL0 := Kd.C_below hL (balloc (Below.refl w.heap.size w) (.cells #[.int .i64 0, .int .i64 0, .int .i64 0] 45))
  have HL := Aside0.mk hL0
  have HV := Aside0.mk (ValidBooks_c A c L _ hL0)
  have HO := Aside0.mk hok
  clear hL hL0 hok
  cases h : vBooks L
  · rw [h] at HV
    have HE := Aside0.mk (show totV L = ⟨0, 0, 0⟩ ∧ eV L = 1 from ⟨totV_f h, eV_f h⟩)
    clear h
    go_enter Tryz.func19, Tryz.ntmps19
    go_wp2_with fail
    generalize World.alloc w _ = w1 at H0 HB HL HV ⊢
    refine HV.out.mono ?_; rintro _ w2 ⟨rfl, hb1⟩
    have hz := blk_below H0.out hb1
    have hB := bstep HB.out hb1
    have f0 := blk_frozen hz 0
    have f1 := blk_frozen hz 1
    have f2 := blk_frozen hz 2
    have c0 := blk_cell hz 0
    have c1 := blk_cell hz 1
    have c2 := blk_cell hz 2
    simp at c0 c1 c2
    have HZ := Aside0.mk (put3 hz rfl (.int .i64 0) (.int .i64 0) (.int .i64 0))
    have HB2 := Aside0.mk (below3 hB (Nat.le_refl _) (.int .i64 0) (.int .i64 0) (.int .i64 0))
    clear hb1 hz hB
    go_wp2
    have hz := HZ.out
    have hB := HB2.out
    clear HZ HB2
    generalize World.setCell (World.setCell (World.setCell _ _ _) _ _) _ _ = wz at hz hB ⊢
    have g0 := blk_cell hz 0
    have g1 := blk_cell hz 1
    have g2 := blk_cell hz 2
    simp at g0 g1 g2
    exact bodyPost_ret (v := .tuple #[.agg #[.int .i64 0, .int .i64 0, .int .i64 0], .int .i64 1]) (by simp [results, Tryz.results19, go_sem, g0, g1, g2]) rfl ⟨by rw [HE.out.1, HE.out.2]; rfl, hB⟩
  · rw [h] at HV
    have HE := Aside0.mk (show totV L = totL L ∧ eV L = 0 from ⟨totV_t h, eV_t h⟩)
    clear h
    go_enter Tryz.func19, Tryz.ntmps19
    go_wp2_with fail
    generalize World.alloc w _ = w1 at H0 HB HL HV ⊢
    refine HV.out.mono ?_; rintro _ w2 ⟨rfl, hb1⟩
    have HC := Aside0.mk (totals_c A c L HO.out w2 (Kd.C_below HL.out hb1))
    obtain ⟨t, ht⟩ : ∃ t, totL L = t := ⟨_, rfl⟩
    rw [ht] at HC HE
    clear ht
    simp only [T3.cells] at HC
    go_wp2_with fail
    refine HC.out.mono ?_; rintro _ w3 ⟨rfl, hb2⟩
    have hz := blk_below (blk_below H0.out hb1) hb2
    have hB := bstep (bstep HB.out hb1) hb2
    have f0 := blk_frozen hz 0
    have f1 := blk_frozen hz 1
    have f2 := blk_frozen hz 2
    have c0 := blk_cell hz 0
    have c1 := blk_cell hz 1
    have c2 := blk_cell hz 2
    simp at c0 c1 c2
    have HZ := Aside0.mk (put3 hz rfl (.int .i64 t.x) (.int .i64 t.y) (.int .i64 t.z))
    have HB2 := Aside0.mk (below3 hB (Nat.le_refl _) (.int .i64 t.x) (.int .i64 t.y) (.int .i64 t.z))
    clear hb1 hb2 hz hB
    go_wp2
    have hz := HZ.out
    have hB := HB2.out
    clear HZ HB2
    generalize World.setCell (World.setCell (World.setCell _ _ _) _ _) _ _ = wz at hz hB ⊢
    have g0 := blk_cell hz 0
    have g1 := blk_cell hz 1
    have g2 := blk_cell hz 2
    simp at g0 g1 g2
    exact bodyPost_ret (v := .tuple #[.agg #[.int .i64 t.x, .int .i64 t.y, .int .i64 t.z], .int .i64 0]) (by simp [results, Tryz.results19, go_sem, g0, g1, g2]) rfl ⟨by rw [HE.out.1, HE.out.2]; rfl, hB⟩
end Go.Proofs.YtkilblnlplfknaaGreatDoor
end
section
/- The totals of a row of books: the reference's. -/
namespace Go.Proofs.YtkilblnlplfknaaGreatDoor
open Go.RowKit Go.Proofs.YtkilblnlplfknaaGreatDoorW.PrintWords Go.Proofs.YtkilblnlplfknaaGreatDoorW.PrintMore
set_option linter.unusedVariables false
set_option linter.unusedSimpArgs false
set_option maxRecDepth 100000

end Go.Proofs.YtkilblnlplfknaaGreatDoor
end
section
/- CountByHundreds: the program's and the reference's. -/
namespace Go.Proofs.YtkilblnlplfknaaGreatDoor
open Go.RowKit Go.Proofs.YtkilblnlplfknaaGreatDoorW.PrintWords Go.Proofs.YtkilblnlplfknaaGreatDoorW.PrintMore
set_option linter.unusedVariables false
set_option linter.unusedSimpArgs false
set_option maxRecDepth 100000

theorem vBooks_class {L : List Bk} (h : vBooks L = true) : ∀ b, b ∈ L → 0 ≤ b.c ∧ b.c ≤ 999 := by
  intro b hb
  unfold vBooks at h
  simp only [Bool.and_eq_true, decide_eq_true_eq, List.all_eq_true] at h
  have := h.2 b hb
  unfold vBook at this
  simp only [Bool.and_eq_true] at this
  exact inR_iff.1 this.1
def cntStep (xs : List Int) (b : Bk) : List Int := xs.set (b.c / 100).toNat (wrap64 (xs.getD (b.c / 100).toNat 0 + 1))
def cntL (L : List Bk) : List Int := L.foldl cntStep [0, 0, 0, 0, 0, 0, 0, 0, 0, 0]
theorem cntL_next {L : List Bk} {k : Nat} {b : Bk} (h : L[k]? = some b) : cntL (L.take (k + 1)) = cntStep (cntL (L.take k)) b := by
  unfold cntL
  rw [take_snoc h, List.foldl_append]
  rfl
theorem cntStep_len (xs : List Int) (b : Bk) : (cntStep xs b).length = xs.length := by unfold cntStep; rw [List.length_set]
theorem cntL_len (L : List Bk) : (cntL L).length = 10 := by
  unfold cntL
  have : ∀ (L : List Bk) (xs : List Int), (L.foldl cntStep xs).length = xs.length := by
    intro L
    induction L with
    | nil => intro xs; rfl
    | cons b L ih => intro xs; rw [List.foldl_cons, ih, cntStep_len]
  rw [this]; rfl
/-- Whole numbers as an array's cells. -/
def arr (xs : List Int) : Array Value := (xs.map (Value.int .i64)).toArray
theorem arr_at {xs : List Int} {i : Nat} (h : i < xs.length) : (arr xs)[i]? = some (.int .i64 (xs.getD i 0)) := by
  simp [arr, List.getD_eq_getElem?_getD, h]
theorem arr_set (xs : List Int) (i : Nat) (n : Int) : (arr xs).setIfInBounds i (.int .i64 n) = arr (xs.set i n) := by
  unfold arr
  apply Array.ext'
  simp [List.map_set]
theorem ten {xs : List Int} (h : xs.length = 10) : ∃ a b c d e f g i j k : Int, xs = [a, b, c, d, e, f, g, i, j, k] := by
  match xs, h with
  | [a, b, c, d, e, f, g, i, j, k], _ => exact ⟨a, b, c, d, e, f, g, i, j, k, rfl⟩
/-- A store of ten values into a block of ten. -/
theorem put10 {w : World} {n : Nat} {cs : Array Value} {t : TypeId} (h : w.heap[n]? = some (.cells cs t (0, 0))) (hs : cs.size = 10) (a b c d e f g i j k : Value) :
    ((((((((((w.setCell ⟨n, 0, none⟩ a).setCell ⟨n, 1, none⟩ b).setCell ⟨n, 2, none⟩ c).setCell ⟨n, 3, none⟩ d).setCell ⟨n, 4, none⟩ e).setCell ⟨n, 5, none⟩ f).setCell ⟨n, 6, none⟩ g).setCell ⟨n, 7, none⟩ i).setCell ⟨n, 8, none⟩ j).setCell ⟨n, 9, none⟩ k).heap[n]? = some (.cells #[a, b, c, d, e, f, g, i, j, k] t (0, 0)) := by
  obtain ⟨l⟩ := cs
  match l, hs with
  | [x0, x1, x2, x3, x4, x5, x6, x7, x8, x9], _ =>
    have h9 := (blk_set (blk_set (blk_set (blk_set (blk_set (blk_set (blk_set (blk_set (blk_set (blk_set h 0 a) 1 b) 2 c) 3 d) 4 e) 5 f) 6 g) 7 i) 8 j) 9 k)
    have e : (((((((((((⟨[x0, x1, x2, x3, x4, x5, x6, x7, x8, x9]⟩ : Array Value).setIfInBounds 0 a).setIfInBounds 1 b).setIfInBounds 2 c).setIfInBounds 3 d).setIfInBounds 4 e).setIfInBounds 5 f).setIfInBounds 6 g).setIfInBounds 7 i).setIfInBounds 8 j).setIfInBounds 9 k) = #[a, b, c, d, e, f, g, i, j, k] := by simp
    rw [e] at h9
    exact h9
theorem below10 {B : Nat} {w0 w : World} (h : Below B w0 w) {n : Nat} (hg : B ≤ n) (a b c d e f g i j k : Value) : Below B w0 ((((((((((w.setCell ⟨n, 0, none⟩ a).setCell ⟨n, 1, none⟩ b).setCell ⟨n, 2, none⟩ c).setCell ⟨n, 3, none⟩ d).setCell ⟨n, 4, none⟩ e).setCell ⟨n, 5, none⟩ f).setCell ⟨n, 6, none⟩ g).setCell ⟨n, 7, none⟩ i).setCell ⟨n, 8, none⟩ j).setCell ⟨n, 9, none⟩ k) :=
  (Below.setCell (Below.setCell (Below.setCell (Below.setCell (Below.setCell (Below.setCell (Below.setCell (Below.setCell (Below.setCell (Below.setCell h (p := ⟨n, 0, none⟩) hg a) (p := ⟨n, 1, none⟩) hg b) (p := ⟨n, 2, none⟩) hg c) (p := ⟨n, 3, none⟩) hg d) (p := ⟨n, 4, none⟩) hg e) (p := ⟨n, 5, none⟩) hg f) (p := ⟨n, 6, none⟩) hg g) (p := ⟨n, 7, none⟩) hg i) (p := ⟨n, 8, none⟩) hg j) (p := ⟨n, 9, none⟩) hg k)
def cntV (L : List Bk) : List Int := if vBooks L = true then cntL L else [0, 0, 0, 0, 0, 0, 0, 0, 0, 0]
set_option maxHeartbeats 4000000 in
theorem CountByHundreds_c (A : Option Addr) (c : Nat) (L : List Bk) (w : World) (hL : kBk.C w A L.length L) : Calls Tryz.prog 20 #[.slice A L.length c] w (Ret w (.tuple #[.agg (arr (cntV L)), .int .i64 (eV L)])) := by
  have hm := Kd.C_max hL
  have hb1 := blk_alloc (blk_new w (.cells #[.int .i64 0, .int .i64 0, .int .i64 0, .int .i64 0, .int .i64 0, .int .i64 0, .int .i64 0, .int .i64 0, .int .i64 0, .int .i64 0] 48)) (.cells #[.int .i64 0, .int .i64 0, .int .i64 0, .int .i64 0, .int .i64 0, .int .i64 0, .int .i64 0, .int .i64 0, .int .i64 0, .int .i64 0] 48)
  have hb2 := blk_new (w.alloc (.cells #[.int .i64 0, .int .i64 0, .int .i64 0, .int .i64 0, .int .i64 0, .int .i64 0, .int .i64 0, .int .i64 0, .int .i64 0, .int .i64 0] 48)) (.cells #[.int .i64 0, .int .i64 0, .int .i64 0, .int .i64 0, .int .i64 0, .int .i64 0, .int .i64 0, .int .i64 0, .int .i64 0, .int .i64 0] 48)
  rw [World.size_alloc] at hb2
  have H1 := Aside0.mk hb1
  have H2 := Aside0.mk hb2
  have HB := Aside0.mk (balloc (balloc (Below.refl w.heap.size w) (.cells #[.int .i64 0, .int .i64 0, .int .i64 0, .int .i64 0, .int .i64 0, .int .i64 0, .int .i64 0, .int .i64 0, .int .i64 0, .int .i64 0] 48)) (.cells #[.int .i64 0, .int .i64 0, .int .i64 0, .int .i64 0, .int .i64 0, .int .i64 0, .int .i64 0, .int .i64 0, .int .i64 0, .int .i64 0] 48))
  have hL0 := Kd.C_below hL HB.out
  have HL := Aside0.mk hL
  have HV := Aside0.mk (ValidBooks_c A c L _ hL0)
  clear hL hL0 hb1 hb2
  cases h : vBooks L
  · rw [h] at HV
    have HE := Aside0.mk (show cntV L = [0, 0, 0, 0, 0, 0, 0, 0, 0, 0] ∧ eV L = 1 by unfold cntV eV; rw [h]; exact ⟨rfl, rfl⟩)
    clear h
    go_enter Tryz.func20, Tryz.ntmps20
    go_wp2_with fail
    generalize hW : World.alloc (World.alloc w _) _ = w1 at H1 H2 HB HV ⊢
    clear hW
    refine HV.out.mono ?_; rintro _ w2 ⟨rfl, hb1⟩
    have hz := blk_below H1.out hb1
    have hy := blk_below H2.out hb1
    have hB := bstep HB.out hb1
    have c0 := blk_cell hy 0
    have f0 := blk_frozen hz 0
    have e0 := blk_cell hz 0
    have c1 := blk_cell hy 1
    have f1 := blk_frozen hz 1
    have e1 := blk_cell hz 1
    have c2 := blk_cell hy 2
    have f2 := blk_frozen hz 2
    have e2 := blk_cell hz 2
    have c3 := blk_cell hy 3
    have f3 := blk_frozen hz 3
    have e3 := blk_cell hz 3
    have c4 := blk_cell hy 4
    have f4 := blk_frozen hz 4
    have e4 := blk_cell hz 4
    have c5 := blk_cell hy 5
    have f5 := blk_frozen hz 5
    have e5 := blk_cell hz 5
    have c6 := blk_cell hy 6
    have f6 := blk_frozen hz 6
    have e6 := blk_cell hz 6
    have c7 := blk_cell hy 7
    have f7 := blk_frozen hz 7
    have e7 := blk_cell hz 7
    have c8 := blk_cell hy 8
    have f8 := blk_frozen hz 8
    have e8 := blk_cell hz 8
    have c9 := blk_cell hy 9
    have f9 := blk_frozen hz 9
    have e9 := blk_cell hz 9
    simp only [List.getElem?_toArray, List.getElem?_cons_zero, List.getElem?_cons_succ] at c0 e0 c1 e1 c2 e2 c3 e3 c4 e4 c5 e5 c6 e6 c7 e7 c8 e8 c9 e9
    have HZ := Aside0.mk (put10 hz rfl (.int .i64 0) (.int .i64 0) (.int .i64 0) (.int .i64 0) (.int .i64 0) (.int .i64 0) (.int .i64 0) (.int .i64 0) (.int .i64 0) (.int .i64 0))
    have HB2 := Aside0.mk (below10 hB (Nat.le_refl _) (.int .i64 0) (.int .i64 0) (.int .i64 0) (.int .i64 0) (.int .i64 0) (.int .i64 0) (.int .i64 0) (.int .i64 0) (.int .i64 0) (.int .i64 0))
    clear hb1 hz hy hB
    go_wp2
    have hz := HZ.out
    have hB := HB2.out
    clear HZ HB2 c0 f0 e0 c1 f1 e1 c2 f2 e2 c3 f3 e3 c4 f4 e4 c5 f5 e5 c6 f6 e6 c7 f7 e7 c8 f8 e8 c9 f9 e9
    generalize World.setCell (World.setCell (World.setCell _ _ _) _ _) _ _ = wz at hz hB ⊢
    have g0 := blk_cell hz 0
    have g1 := blk_cell hz 1
    have g2 := blk_cell hz 2
    have g3 := blk_cell hz 3
    have g4 := blk_cell hz 4
    have g5 := blk_cell hz 5
    have g6 := blk_cell hz 6
    have g7 := blk_cell hz 7
    have g8 := blk_cell hz 8
    have g9 := blk_cell hz 9
    simp only [List.getElem?_toArray, List.getElem?_cons_zero, List.getElem?_cons_succ] at g0 g1 g2 g3 g4 g5 g6 g7 g8 g9
    exact bodyPost_ret (v := .tuple #[.agg #[.int .i64 0, .int .i64 0, .int .i64 0, .int .i64 0, .int .i64 0, .int .i64 0, .int .i64 0, .int .i64 0, .int .i64 0, .int .i64 0], .int .i64 1]) (by simp [results, Tryz.results20, go_sem, g0, g1, g2, g3, g4, g5, g6, g7, g8, g9]) rfl ⟨by rw [HE.out.1, HE.out.2]; rfl, hB⟩
  · rw [h] at HV
    have HE := Aside0.mk (show cntV L = cntL L ∧ eV L = 0 by unfold cntV eV; rw [h]; exact ⟨rfl, rfl⟩)
    have HCL := Aside0.mk (vBooks_class h)
    clear h
    go_enter Tryz.func20, Tryz.ntmps20
    go_wp2_with fail
    generalize hW : World.alloc (World.alloc w _) _ = w1 at H1 H2 HB HV ⊢
    clear hW
    refine HV.out.mono ?_; rintro _ w2 ⟨rfl, hb1⟩
    have G1 := Aside0.mk (blk_below H1.out hb1)
    have G2 := Aside0.mk (blk_below H2.out hb1)
    have GB := Aside0.mk (bstep HB.out hb1)
    clear H1 H2 HB HV hb1
    go_wp2_with fail
    go_loopg [13] L.length (fun gk v wr => ∃ k : Nat, k + gk = L.length ∧ v = .int .i64 k ∧ Aside0 (wr.heap[w.heap.size]? = some (.cells #[.int .i64 0, .int .i64 0, .int .i64 0, .int .i64 0, .int .i64 0, .int .i64 0, .int .i64 0, .int .i64 0, .int .i64 0, .int .i64 0] 48 (0, 0))) ∧ Aside0 (wr.heap[w.heap.size + 1]? = some (.cells (arr (cntL (L.take k))) 48 (0, 0))) ∧ Aside0 (Below w.heap.size w wr))
    case atStart => exact ⟨0, by omega, rfl, G1, ⟨G2.out⟩, GB⟩
    case round =>
      clear G1 G2 GB
      obtain ⟨k, hk, rfl, H1, H2, HB⟩ := hrel
      have HK := Aside0.mk hk
      by_cases hlt : k < L.length
      · obtain ⟨ad, b, rfl, hbk, x0, x1, x2, x3, x4, x5, x6, x7⟩ := at_bk (Kd.C_below HL.out HB.out) k hlt
        have HN := Aside0.mk (cntL_next hbk.out)
        obtain ⟨i0, i9⟩ := HCL.out b (mem_of hbk.out)
        have hl := cntL_len (L.take k)
        obtain ⟨xs, hxs⟩ : ∃ xs, cntL (L.take k) = xs := ⟨_, rfl⟩
        rw [hxs] at H2 HN hl
        obtain ⟨q, hq⟩ : ∃ q : Nat, (b.c / 100).toNat = q := ⟨_, rfl⟩
        have hq9 : q < 10 := by omega
        have hqw : IntKind.i16.wrap (b.c.tdiv 100) = (q : Int) := by
          rw [Int.tdiv_eq_ediv_of_nonneg i0, ← hq]
          simp only [IntKind.wrap, IntKind.bits, IntKind.signed, Bool.true_and, decide_eq_true_eq, ge_iff_le]; split <;> omega
        have q0 : (0 : Int) ≤ (q : Int) := by omega
        have q9 : (q : Int) < 10 := by omega
        have hl2 := blk_lt H2.out
        have hc0 := (blk_cell H2.out q).trans (arr_at (by omega))
        have hf0 := blk_frozen H2.out q
        have HNX := Aside0.mk (show cntStep xs b = xs.set q (wrap64 (xs.getD q 0 + 1)) by unfold cntStep; rw [hq])
        have HLX := Aside0.mk hl
        obtain ⟨n, hn⟩ : ∃ n, xs.getD q 0 = n := ⟨_, rfl⟩
        rw [hn] at hc0 HNX
        clear hk hxs hl hq hn
        go_wp2
        go_roundg (gk - 1)
        case measure => have := HK.out; omega
        case rel =>
          refine ⟨k + 1, by have := HK.out; omega, by go_num, ⟨?_⟩, ⟨?_⟩, ⟨?_⟩⟩
          · exact blk_alloc (blk_far H1.out (by simp) _) _
          · rw [HN.out, HNX.out]
            have := blk_alloc (blk_set H2.out q (.int .i64 (wrap64 (n + 1)))) (.cells #[.int .i16 b.c, .int .u8 b.m0, .int .u8 b.m1, .int .u8 b.m2, .int .i16 b.v, .int .i16 b.wd, .int .i16 b.h, .int .i16 b.wt] 30)
            rw [arr_set] at this
            exact this
          · exact balloc (Below.setCell HB.out (by simp) _) _
      · have HFN := Aside0.mk (show cntL (L.take k) = cntL L by rw [List.take_of_length_le (by omega)])
        rw [HFN.out] at H2
        obtain ⟨y0, y1, y2, y3, y4, y5, y6, y7, y8, y9, hx⟩ := ten (cntL_len L)
        rw [hx] at H2
        have HX := Aside0.mk hx
        clear hx hk
        have hz := H1.out
        have hy := H2.out
        have hB := HB.out
        simp only [arr, List.map_cons, List.map_nil] at hy
        have c0 := blk_cell hy 0
        have f0 := blk_frozen hz 0
        have e0 := blk_cell hz 0
        have c1 := blk_cell hy 1
        have f1 := blk_frozen hz 1
        have e1 := blk_cell hz 1
        have c2 := blk_cell hy 2
        have f2 := blk_frozen hz 2
        have e2 := blk_cell hz 2
        have c3 := blk_cell hy 3
        have f3 := blk_frozen hz 3
        have e3 := blk_cell hz 3
        have c4 := blk_cell hy 4
        have f4 := blk_frozen hz 4
        have e4 := blk_cell hz 4
        have c5 := blk_cell hy 5
        have f5 := blk_frozen hz 5
        have e5 := blk_cell hz 5
        have c6 := blk_cell hy 6
        have f6 := blk_frozen hz 6
        have e6 := blk_cell hz 6
        have c7 := blk_cell hy 7
        have f7 := blk_frozen hz 7
        have e7 := blk_cell hz 7
        have c8 := blk_cell hy 8
        have f8 := blk_frozen hz 8
        have e8 := blk_cell hz 8
        have c9 := blk_cell hy 9
        have f9 := blk_frozen hz 9
        have e9 := blk_cell hz 9
        simp only [List.getElem?_toArray, List.getElem?_cons_zero, List.getElem?_cons_succ] at c0 e0 c1 e1 c2 e2 c3 e3 c4 e4 c5 e5 c6 e6 c7 e7 c8 e8 c9 e9
        have HZ := Aside0.mk (put10 hz rfl (.int .i64 y0) (.int .i64 y1) (.int .i64 y2) (.int .i64 y3) (.int .i64 y4) (.int .i64 y5) (.int .i64 y6) (.int .i64 y7) (.int .i64 y8) (.int .i64 y9))
        have HB2 := Aside0.mk (below10 hB (Nat.le_refl _) (.int .i64 y0) (.int .i64 y1) (.int .i64 y2) (.int .i64 y3) (.int .i64 y4) (.int .i64 y5) (.int .i64 y6) (.int .i64 y7) (.int .i64 y8) (.int .i64 y9))
        clear hz hy hB
        go_wp2
        have hz := HZ.out
        have hB := HB2.out
        clear HZ HB2 c0 f0 e0 c1 f1 e1 c2 f2 e2 c3 f3 e3 c4 f4 e4 c5 f5 e5 c6 f6 e6 c7 f7 e7 c8 f8 e8 c9 f9 e9
        generalize World.setCell (World.setCell (World.setCell _ _ _) _ _) _ _ = wz at hz hB ⊢
        have g0 := blk_cell hz 0
        have g1 := blk_cell hz 1
        have g2 := blk_cell hz 2
        have g3 := blk_cell hz 3
        have g4 := blk_cell hz 4
        have g5 := blk_cell hz 5
        have g6 := blk_cell hz 6
        have g7 := blk_cell hz 7
        have g8 := blk_cell hz 8
        have g9 := blk_cell hz 9
        simp only [List.getElem?_toArray, List.getElem?_cons_zero, List.getElem?_cons_succ] at g0 g1 g2 g3 g4 g5 g6 g7 g8 g9
        exact bodyPost_ret (v := .tuple #[.agg #[.int .i64 y0, .int .i64 y1, .int .i64 y2, .int .i64 y3, .int .i64 y4, .int .i64 y5, .int .i64 y6, .int .i64 y7, .int .i64 y8, .int .i64 y9], .int .i64 0]) (by simp [results, Tryz.results20, go_sem, g0, g1, g2, g3, g4, g5, g6, g7, g8, g9]) rfl ⟨by rw [HE.out.1, HE.out.2, HX.out]; rfl, hB⟩
end Go.Proofs.YtkilblnlplfknaaGreatDoor
end
section
/- FindBook: the program's and the reference's. -/
namespace Go.Proofs.YtkilblnlplfknaaGreatDoor
open Go.RowKit Go.Proofs.YtkilblnlplfknaaGreatDoorW.PrintWords Go.Proofs.YtkilblnlplfknaaGreatDoorW.PrintMore
set_option linter.unusedVariables false
set_option linter.unusedSimpArgs false
set_option maxRecDepth 100000

def markS (b : Bk) : ByteArray := strOfNums [b.m0, b.m1, b.m2]
def fbP (class_ : Int) (mark : ByteArray) (vol : Int) (b : Bk) : Bool := decide (b.c = class_) && (((markS b).toList == mark.toList) && decide (b.v = vol))
theorem mark_conv {W : World} {g o : Nat} {b : Bk} (h : BkAt W ⟨g, o, none⟩ b) (c : Nat) : (convert 22 9 (.slice (some ⟨g, o + 1, none⟩) 3 c)).run Tryz.prog W = .ok (.string (markS b)) W :=
  Kd.C_string Tryz.underlying22 Tryz.underlying5 Tryz.underlying9 (h.mark_C)
theorem mark_conv0 {W : World} {g : Nat} {b : Bk} (h : BkAt W ⟨g, 0, none⟩ b) (c : Nat) : (convert 22 9 (.slice (some ⟨g, 1, none⟩) 3 c)).run Tryz.prog W = .ok (.string (markS b)) W := mark_conv h c
set_option maxHeartbeats 4000000 in
theorem findClo_c (cl : Int) (s : ByteArray) (vo : Int) (x : Bk) (h0 : 0 ≤ x.c) (h9 : x.c ≤ 999) (v0 : I16 x.v) (g : Nat) (w : World) (hg : g + 2 < w.heap.size) (h1 : w.cell? ⟨g, 0, none⟩ = some (.int .i64 cl)) (h2 : w.cell? ⟨g + 1, 0, none⟩ = some (.string s)) (h3 : w.cell? ⟨g + 2, 0, none⟩ = some (.int .i64 vo)) :
    Calls Tryz.prog 39 #[x.val, .pointer (some ⟨g, 0, none⟩), .pointer (some ⟨g + 1, 0, none⟩), .pointer (some ⟨g + 2, 0, none⟩)] w (Ret w (.bool (fbP cl s vo x))) := by
  have HBX := Aside0.mk (BkAt.box w x 30)
  have HB := Aside0.mk (balloc (Below.refl w.heap.size w) (.cells #[.int .i16 x.c, .int .u8 x.m0, .int .u8 x.m1, .int .u8 x.m2, .int .i16 x.v, .int .i16 x.wd, .int .i16 x.h, .int .i16 x.wt] 30))
  have e1 := (World.cell?_alloc_lt w (.cells #[.int .i16 x.c, .int .u8 x.m0, .int .u8 x.m1, .int .u8 x.m2, .int .i16 x.v, .int .i16 x.wd, .int .i16 x.h, .int .i16 x.wt] 30) ⟨g, 0, none⟩ (by show g < _; omega)).trans h1
  have e2 := (World.cell?_alloc_lt w (.cells #[.int .i16 x.c, .int .u8 x.m0, .int .u8 x.m1, .int .u8 x.m2, .int .i16 x.v, .int .i16 x.wd, .int .i16 x.h, .int .i16 x.wt] 30) ⟨g + 1, 0, none⟩ (by show g + 1 < _; omega)).trans h2
  have e3 := (World.cell?_alloc_lt w (.cells #[.int .i16 x.c, .int .u8 x.m0, .int .u8 x.m1, .int .u8 x.m2, .int .i16 x.v, .int .i16 x.wd, .int .i16 x.h, .int .i16 x.wt] 30) ⟨g + 2, 0, none⟩ (by show g + 2 < _; omega)).trans h3
  simp only [Bk.val]
  clear h1 h2 h3
  obtain ⟨v1, v2⟩ := v0
  have hw1 : IntKind.i64.wrap x.c = x.c := by simp only [IntKind.wrap, IntKind.bits, IntKind.signed, Bool.true_and, decide_eq_true_eq, ge_iff_le]; split <;> omega
  have hw2 : IntKind.i64.wrap x.v = x.v := by simp only [IntKind.wrap, IntKind.bits, IntKind.signed, Bool.true_and, decide_eq_true_eq, ge_iff_le]; split <;> omega
  by_cases q1 : x.c = cl
  · have HQ1 := Aside0.mk q1
    have b1 : (x.c == cl) = true := by simpa using q1
    clear q1
    cases q2 : ((markS x).toList == s.toList)
    · have HR := Aside0.mk (show fbP cl s vo x = false by unfold fbP; rw [q2]; simp)
      go_enter Tryz.func39, Tryz.ntmps39
      go_wp2
      generalize hW : World.alloc w _ = W1 at HBX HB e1 e2 e3 ⊢
      clear hW
      have hcv2 := fun (n c : Nat) => mark_conv0 (HBX.out.below (bdrewN (Below.refl _ _) n)) c
      obtain ⟨p0, p1, p2, p3, p4, p5, p6, p7⟩ := HBX.out
      go_quiet (fail)
      clear hcv2
      go_wp2
      go_ret
      exact ⟨ret_bool HR.out.symm, bdrewN HB.out _⟩
    · by_cases q3 : x.v = vo
      · have HR := Aside0.mk (show fbP cl s vo x = true by unfold fbP; rw [q2, decide_eq_true q3, decide_eq_true HQ1.out]; rfl)
        have b3 : (x.v == vo) = true := by simpa using q3
        clear q3
        go_enter Tryz.func39, Tryz.ntmps39
        go_wp2
        generalize hW : World.alloc w _ = W1 at HBX HB e1 e2 e3 ⊢
        clear hW
        have hcv2 := fun (n c : Nat) => mark_conv0 (HBX.out.below (bdrewN (Below.refl _ _) n)) c
        obtain ⟨p0, p1, p2, p3, p4, p5, p6, p7⟩ := HBX.out
        go_quiet (fail)
        clear hcv2
        go_wp2
        go_ret
        exact ⟨ret_bool HR.out.symm, bdrewN HB.out _⟩
      · have HR := Aside0.mk (show fbP cl s vo x = false by unfold fbP; rw [decide_eq_false q3]; simp)
        have b3 : (x.v == vo) = false := by simpa using q3
        clear q3
        go_enter Tryz.func39, Tryz.ntmps39
        go_wp2
        generalize hW : World.alloc w _ = W1 at HBX HB e1 e2 e3 ⊢
        clear hW
        have hcv2 := fun (n c : Nat) => mark_conv0 (HBX.out.below (bdrewN (Below.refl _ _) n)) c
        obtain ⟨p0, p1, p2, p3, p4, p5, p6, p7⟩ := HBX.out
        go_quiet (fail)
        clear hcv2
        go_wp2
        go_ret
        exact ⟨ret_bool HR.out.symm, bdrewN HB.out _⟩
  · have HR := Aside0.mk (show fbP cl s vo x = false by unfold fbP; rw [decide_eq_false q1]; rfl)
    have b1 : (x.c == cl) = false := by simpa using q1
    clear q1
    go_enter Tryz.func39, Tryz.ntmps39
    go_wp2
    generalize hW : World.alloc w _ = W1 at HBX HB e1 e2 e3 ⊢
    clear hW
    obtain ⟨p0, p1, p2, p3, p4, p5, p6, p7⟩ := HBX.out
    go_quiet (fail)
    go_wp2
    go_ret
    exact ⟨ret_bool HR.out.symm, bdrewN HB.out _⟩
theorem vBooks_vol {L : List Bk} (h : vBooks L = true) : ∀ b, b ∈ L → I16 b.v := by
  intro b hb
  unfold vBooks at h
  simp only [Bool.and_eq_true, decide_eq_true_eq, List.all_eq_true] at h
  have := h.2 b hb
  unfold vBook at this
  simp only [Bool.and_eq_true] at this
  have := inR_iff.1 this.2.2.1
  unfold I16
  omega
def fbV (L : List Bk) (p : Bk → Bool) : Int := if sCode L = 0 then (if idxF L p < 0 then 0 else idxF L p) else 0
def fbE (L : List Bk) (p : Bk → Bool) : Int := if sCode L = 0 then (if idxF L p < 0 then 6 else 0) else sCode L
theorem fb_bad {L : List Bk} {p : Bk → Bool} (h : ¬ sCode L = 0) : fbV L p = 0 ∧ fbE L p = sCode L := by unfold fbV fbE; rw [if_neg h, if_neg h]; exact ⟨rfl, rfl⟩
theorem fb_ok {L : List Bk} {p : Bk → Bool} (h : sCode L = 0) : fbV L p = (if idxF L p < 0 then 0 else idxF L p) ∧ fbE L p = (if idxF L p < 0 then 6 else 0) := by unfold fbV fbE; rw [if_pos h, if_pos h]; exact ⟨rfl, rfl⟩
set_option maxHeartbeats 4000000 in
theorem FindBook_c (A : Option Addr) (c : Nat) (L : List Bk) (cl : Int) (s : ByteArray) (vo : Int) (w : World) (hL : kBk.C w A L.length L) :
    Calls Tryz.prog 11 #[.slice A L.length c, .int .i64 cl, .string s, .int .i64 vo] w (Ret w (.tuple #[.int .i64 (fbV L (fbP cl s vo)), .int .i64 (fbE L (fbP cl s vo))])) := by
  have hm := Kd.C_max hL
  have HL := Aside0.mk hL
  have HB := Aside0.mk (balloc (balloc (balloc (Below.refl w.heap.size w) (.cells #[.int .i64 cl] 2)) (.cells #[.string s] 9)) (.cells #[.int .i64 vo] 2))
  have h1 := blk_alloc (blk_alloc (blk_new w (.cells #[.int .i64 cl] 2)) (.cells #[.string s] 9)) (.cells #[.int .i64 vo] 2)
  have h2 := blk_alloc (blk_new (w.alloc (.cells #[.int .i64 cl] 2)) (.cells #[.string s] 9)) (.cells #[.int .i64 vo] 2)
  have h3 := blk_new ((w.alloc (.cells #[.int .i64 cl] 2)).alloc (.cells #[.string s] 9)) (.cells #[.int .i64 vo] 2)
  have hs0 := sorted1_c A c L _ (Kd.C_below hL HB.out)
  simp only [World.size_alloc] at h2 h3 hs0
  have H1 := Aside0.mk h1
  have H2 := Aside0.mk h2
  have H3 := Aside0.mk (show _ = _ from h3)
  have HS := Aside0.mk hs0
  clear hL h1 h2 h3 hs0
  by_cases hs : sCode L = 0
  · have HCL := Aside0.mk (vBooks_class (sCode_zero.1 hs).1)
    have HVL := Aside0.mk (vBooks_vol (sCode_zero.1 hs).1)
    have HR := Aside0.mk (fb_ok (L := L) (p := fbP cl s vo) hs)
    rw [hs] at HS
    clear hs
    go_enter Tryz.func11, Tryz.ntmps11
    go_wp2_with fail
    refine HS.out.mono ?_; rintro _ w1 ⟨rfl, hb1⟩
    have HB1 := Aside0.mk (bstep (balloc HB.out _) hb1)
    have K1 := Aside0.mk (blk_below (blk_alloc H1.out (.cells #[.slice A L.length c] 24)) hb1)
    have K2 := Aside0.mk (blk_below (blk_alloc H2.out (.cells #[.slice A L.length c] 24)) hb1)
    have K3 := Aside0.mk (blk_below (blk_alloc H3.out (.cells #[.slice A L.length c] 24)) hb1)
    clear hb1
    go_wp2_with fail
    refine (indexFuncBk_c A c L 39 #[.pointer (some ⟨w.heap.size, 0, none⟩), .pointer (some ⟨w.heap.size + 1, 0, none⟩), .pointer (some ⟨w.heap.size + 2, 0, none⟩)] (fbP cl s vo) w1 (Kd.C_below HL.out HB1.out) ⟨_, Tryz.func39, rfl, rfl⟩ (fun W hW x hx => findClo_c cl s vo x (HCL.out x hx).1 (HCL.out x hx).2 (HVL.out x hx) w.heap.size W (blk_lt (blk_below K3.out hW)) ((blk_cell (blk_below K1.out hW) 0).trans rfl) ((blk_cell (blk_below K2.out hW) 0).trans rfl) ((blk_cell (blk_below K3.out hW) 0).trans rfl))).mono ?_; rintro _ w2 ⟨rfl, hb2⟩
    have HB2 := Aside0.mk (bstep HB1.out hb2)
    clear hb2
    generalize idxF L (fbP cl s vo) = o at HR ⊢
    by_cases hf : o < 0
    · rw [if_pos hf, if_pos hf] at HR
      go_wp2_with fail
      go_ret2
      exact ⟨ret_two HR.out.1.symm HR.out.2.symm, HB2.out⟩
    · rw [if_neg hf, if_neg hf] at HR
      go_wp2_with fail
      go_ret2
      exact ⟨ret_two HR.out.1.symm HR.out.2.symm, HB2.out⟩
  · have HR := Aside0.mk (fb_bad (L := L) (p := fbP cl s vo) hs)
    have hq : (sCode L != 0) = true := by simpa using hs
    clear hs
    go_enter Tryz.func11, Tryz.ntmps11
    go_wp2_with fail
    refine HS.out.mono ?_; rintro _ w1 ⟨rfl, hb1⟩
    have HB1 := Aside0.mk (bstep (balloc HB.out _) hb1)
    clear hb1
    go_wp2_with fail
    go_ret2
    exact ⟨ret_two HR.out.1.symm HR.out.2.symm, HB1.out⟩
end Go.Proofs.YtkilblnlplfknaaGreatDoor
end
section
/- ClassRange: the program's and the reference's. -/
namespace Go.Proofs.YtkilblnlplfknaaGreatDoor
open Go.RowKit Go.Proofs.YtkilblnlplfknaaGreatDoorW.PrintWords Go.Proofs.YtkilblnlplfknaaGreatDoorW.PrintMore
set_option linter.unusedVariables false
set_option linter.unusedSimpArgs false
set_option maxRecDepth 100000

theorem within64_c (n lo hi : Int) (w : World) : Calls Tryz.prog 46 #[.int .i64 n, .int .i64 lo, .int .i64 hi] w (RetS w (.bool (inR n lo hi))) := by
  go_enter Tryz.func46, Tryz.ntmps46
  go_wp2
  all_goals (go_ret; refine ⟨ret_bool ?_, rfl⟩; unfold inR; rw [Bool.eq_iff_iff]; simp; omega)
theorem rangeClo1_c (low : Int) (x : Bk) (g : Nat) (w : World) (h0 : 0 ≤ x.c) (h9 : x.c ≤ 999) (hc : w.cell? ⟨g, 0, none⟩ = some (.int .i64 low)) (hg : g < w.heap.size) : Calls Tryz.prog 47 #[x.val, .pointer (some ⟨g, 0, none⟩)] w (Ret w (.bool (decide (low ≤ x.c)))) := by
  simp only [Bk.val]
  go_enter Tryz.func47, Tryz.ntmps47
  go_wp2
  all_goals (go_ret; exact ⟨ret_bool (by simp; try omega), balloc (Below.refl _ _) _⟩)
theorem rangeClo2_c (high : Int) (x : Bk) (g : Nat) (w : World) (h0 : 0 ≤ x.c) (h9 : x.c ≤ 999) (hc : w.cell? ⟨g, 0, none⟩ = some (.int .i64 high)) (hg : g < w.heap.size) : Calls Tryz.prog 48 #[x.val, .pointer (some ⟨g, 0, none⟩)] w (Ret w (.bool (decide (high + 1 ≤ x.c)))) := by
  simp only [Bk.val]
  go_enter Tryz.func48, Tryz.ntmps48
  go_wp2
  all_goals (go_ret; refine ⟨ret_bool ?_, balloc (Below.refl _ _) _⟩; rw [decide_eq_decide]; omega)
def okRange (low high : Int) : Bool := inR low 0 999 && (inR high 0 999 && decide (low ≤ high))
def crC (L : List Bk) (low high : Int) : Int := if sCode L = 0 then (if okRange low high = true then 0 else 2) else sCode L
def crF (L : List Bk) (low high : Int) : Int := if crC L low high = 0 then (L.findIdx (fun b => decide (low ≤ b.c)) : Nat) else 0
def crT (L : List Bk) (low high : Int) : Int := if crC L low high = 0 then (L.findIdx (fun b => decide (high + 1 ≤ b.c)) : Nat) else 0
theorem cr_bad {L : List Bk} {low high e : Int} (h : crC L low high = e) (he : e ≠ 0) : crF L low high = 0 ∧ crT L low high = 0 ∧ crC L low high = e := ⟨by unfold crF; rw [h, if_neg he], by unfold crT; rw [h, if_neg he], h⟩
theorem cr_ok {L : List Bk} {low high : Int} (h : crC L low high = 0) : crF L low high = (L.findIdx (fun b => decide (low ≤ b.c)) : Nat) ∧ crT L low high = (L.findIdx (fun b => decide (high + 1 ≤ b.c)) : Nat) ∧ crC L low high = 0 := ⟨by unfold crF; rw [h, if_pos rfl], by unfold crT; rw [h, if_pos rfl], h⟩
set_option maxHeartbeats 4000000 in
theorem ClassRange_c (A : Option Addr) (c : Nat) (L : List Bk) (low high : Int) (w : World) (hL : kBk.C w A L.length L) :
    Calls Tryz.prog 18 #[.slice A L.length c, .int .i64 low, .int .i64 high] w (Ret w (.tuple #[.int .i64 (crF L low high), .int .i64 (crT L low high), .int .i64 (crC L low high)])) := by
  have hm := Kd.C_max hL
  have HL := Aside0.mk hL
  have HB := Aside0.mk (balloc (balloc (Below.refl w.heap.size w) (.cells #[.int .i64 low] 2)) (.cells #[.int .i64 high] 2))
  have H1 := Aside0.mk (blk_alloc (blk_new w (.cells #[.int .i64 low] 2)) (.cells #[.int .i64 high] 2))
  have h2 := blk_new (w.alloc (.cells #[.int .i64 low] 2)) (.cells #[.int .i64 high] 2)
  rw [World.size_alloc] at h2
  have H2 := Aside0.mk h2
  have hs0 := sorted1_c A c L _ (Kd.C_below hL HB.out)
  simp only [World.size_alloc] at hs0
  have HS := Aside0.mk hs0
  clear hL h2 hs0
  by_cases hs : sCode L = 0
  · have HCL := Aside0.mk (vBooks_class (sCode_zero.1 hs).1)
    rw [hs] at HS
    cases g1 : inR low 0 999
    · have HR := Aside0.mk (cr_bad (L := L) (low := low) (high := high) (e := 2) (by unfold crC okRange; rw [if_pos hs, g1]; rfl) (by decide))
      have HW := Aside0.mk (fun W => within64_c low 0 999 W)
      rw [g1] at HW
      clear g1 hs
      go_enter Tryz.func18, Tryz.ntmps18
      go_wp2_with fail
      refine HS.out.mono ?_; rintro _ w1 ⟨rfl, hb1⟩
      have HB1 := Aside0.mk (bstep (balloc HB.out _) hb1)
      have c1 := blk_cell (blk_below (blk_alloc H1.out (.cells #[.slice A L.length c] 24)) hb1) 0
      have c2 := blk_cell (blk_below (blk_alloc H2.out (.cells #[.slice A L.length c] 24)) hb1) 0
      simp only [List.getElem?_toArray, List.getElem?_cons_zero] at c1 c2
      clear hb1
      go_wp2_with fail
      refine (HW.out _).mono ?_; rintro _ w2 ⟨rfl, rfl⟩
      go_wp2_with fail
      go_ret3
      exact ⟨ret_three HR.out.1.symm HR.out.2.1.symm HR.out.2.2.symm, HB1.out⟩
    · have HW := Aside0.mk (fun W => within64_c low 0 999 W)
      rw [g1] at HW
      cases g2 : inR high 0 999
      · have HR := Aside0.mk (cr_bad (L := L) (low := low) (high := high) (e := 2) (by unfold crC okRange; rw [if_pos hs, g1, g2]; rfl) (by decide))
        have HV := Aside0.mk (fun W => within64_c high 0 999 W)
        rw [g2] at HV
        clear g1 g2 hs
        go_enter Tryz.func18, Tryz.ntmps18
        go_wp2_with fail
        refine HS.out.mono ?_; rintro _ w1 ⟨rfl, hb1⟩
        have HB1 := Aside0.mk (bstep (balloc HB.out _) hb1)
        have c1 := blk_cell (blk_below (blk_alloc H1.out (.cells #[.slice A L.length c] 24)) hb1) 0
        have c2 := blk_cell (blk_below (blk_alloc H2.out (.cells #[.slice A L.length c] 24)) hb1) 0
        simp only [List.getElem?_toArray, List.getElem?_cons_zero] at c1 c2
        clear hb1
        go_wp2_with fail
        refine (HW.out _).mono ?_; rintro _ w2 ⟨rfl, rfl⟩
        go_wp2_with fail
        refine (HV.out _).mono ?_; rintro _ w2 ⟨rfl, rfl⟩
        go_wp2_with fail
        go_ret3
        exact ⟨ret_three HR.out.1.symm HR.out.2.1.symm HR.out.2.2.symm, HB1.out⟩
      · have HV := Aside0.mk (fun W => within64_c high 0 999 W)
        rw [g2] at HV
        by_cases g3 : low ≤ high
        · have HR := Aside0.mk (cr_ok (L := L) (low := low) (high := high) (by unfold crC okRange; rw [if_pos hs, g1, g2, decide_eq_true g3]; rfl))
          clear g1 g2 hs
          go_enter Tryz.func18, Tryz.ntmps18
          go_wp2_with fail
          refine HS.out.mono ?_; rintro _ w1 ⟨rfl, hb1⟩
          have HB1 := Aside0.mk (bstep (balloc HB.out _) hb1)
          have K1 := Aside0.mk (blk_below (blk_alloc H1.out (.cells #[.slice A L.length c] 24)) hb1)
          have K2 := Aside0.mk (blk_below (blk_alloc H2.out (.cells #[.slice A L.length c] 24)) hb1)
          have c1 := blk_cell K1.out 0
          have c2 := blk_cell K2.out 0
          simp only [List.getElem?_toArray, List.getElem?_cons_zero] at c1 c2
          clear hb1
          go_wp2_with fail
          refine (HW.out _).mono ?_; rintro _ w2 ⟨rfl, rfl⟩
          go_wp2_with fail
          refine (HV.out _).mono ?_; rintro _ w2 ⟨rfl, rfl⟩
          go_wp2_with fail
          refine (firstOf_c A c L 47 #[.pointer (some ⟨w.heap.size, 0, none⟩)] (fun b => decide (low ≤ b.c)) w1 (Kd.C_below HL.out HB1.out) ⟨_, Tryz.func47, rfl, rfl⟩ (fun W hW x hx => rangeClo1_c low x _ W (HCL.out x hx).1 (HCL.out x hx).2 ((blk_cell (blk_below K1.out hW) 0).trans rfl) (blk_lt (blk_below K1.out hW)))).mono ?_; rintro _ w3 ⟨rfl, hb3⟩
          have HB3 := Aside0.mk (bstep HB1.out hb3)
          have K3 := Aside0.mk (blk_below K2.out hb3)
          clear hb3 c1 c2
          go_wp2_with fail
          refine (firstOf_c A c L 48 #[.pointer (some ⟨w.heap.size + 1, 0, none⟩)] (fun b => decide (high + 1 ≤ b.c)) w3 (Kd.C_below HL.out HB3.out) ⟨_, Tryz.func48, rfl, rfl⟩ (fun W hW x hx => rangeClo2_c high x _ W (HCL.out x hx).1 (HCL.out x hx).2 ((blk_cell (blk_below K3.out hW) 0).trans rfl) (blk_lt (blk_below K3.out hW)))).mono ?_; rintro _ w4 ⟨rfl, hb4⟩
          have HB4 := Aside0.mk (bstep HB3.out hb4)
          clear hb4
          go_wp2_with fail
          go_ret3
          exact ⟨ret_three HR.out.1.symm HR.out.2.1.symm HR.out.2.2.symm, HB4.out⟩
        · have HR := Aside0.mk (cr_bad (L := L) (low := low) (high := high) (e := 2) (by unfold crC okRange; rw [if_pos hs, g1, g2, decide_eq_false g3]; rfl) (by decide))
          clear g1 g2 hs
          go_enter Tryz.func18, Tryz.ntmps18
          go_wp2_with fail
          refine HS.out.mono ?_; rintro _ w1 ⟨rfl, hb1⟩
          have HB1 := Aside0.mk (bstep (balloc HB.out _) hb1)
          have c1 := blk_cell (blk_below (blk_alloc H1.out (.cells #[.slice A L.length c] 24)) hb1) 0
          have c2 := blk_cell (blk_below (blk_alloc H2.out (.cells #[.slice A L.length c] 24)) hb1) 0
          simp only [List.getElem?_toArray, List.getElem?_cons_zero] at c1 c2
          clear hb1
          go_wp2_with fail
          refine (HW.out _).mono ?_; rintro _ w2 ⟨rfl, rfl⟩
          go_wp2_with fail
          refine (HV.out _).mono ?_; rintro _ w2 ⟨rfl, rfl⟩
          go_wp2_with fail
          go_ret3
          exact ⟨ret_three HR.out.1.symm HR.out.2.1.symm HR.out.2.2.symm, HB1.out⟩
  · have HR := Aside0.mk (cr_bad (L := L) (low := low) (high := high) (e := sCode L) (by unfold crC; rw [if_neg hs]) hs)
    have hq : (sCode L != 0) = true := by simpa using hs
    clear hs
    go_enter Tryz.func18, Tryz.ntmps18
    go_wp2_with fail
    refine HS.out.mono ?_; rintro _ w1 ⟨rfl, hb1⟩
    have HB1 := Aside0.mk (bstep (balloc HB.out _) hb1)
    clear hb1
    go_wp2_with fail
    go_ret3
    exact ⟨ret_three HR.out.1.symm HR.out.2.1.symm HR.out.2.2.symm, HB1.out⟩
/-- How many of the first k have a lower class. -/
def cntF (L : List Bk) (n : Int) (k : Nat) : Nat := ((L.take k).filter (fun b => decide (b.c < n))).length
theorem cntF_yes {L : List Bk} {n : Int} {k : Nat} {b : Bk} (h : L[k]? = some b) (hc : b.c < n) : cntF L n (k + 1) = cntF L n k + 1 := by
  unfold cntF
  rw [take_snoc h, List.filter_append, List.length_append, List.filter_cons_of_pos (by simpa using hc)]
  rfl
theorem cntF_no {L : List Bk} {n : Int} {k : Nat} {b : Bk} (h : L[k]? = some b) (hc : ¬ b.c < n) : cntF L n (k + 1) = cntF L n k := by
  unfold cntF
  rw [take_snoc h, List.filter_append, List.length_append, List.filter_cons_of_neg (by simpa using hc)]
  rfl
theorem cntF_le (L : List Bk) (n : Int) (k : Nat) : cntF L n k ≤ k := by
  unfold cntF
  exact Nat.le_trans (List.length_filter_le _ _) (by rw [List.length_take]; omega)
theorem cntF_all {L : List Bk} (hu : Srt.Up ltU L) (n : Int) {k : Nat} (h : L.length ≤ k) : cntF L n k = L.findIdx (fun b => decide (n ≤ b.c)) := by
  unfold cntF
  rw [List.take_of_length_le h]
  exact count_findIdx hu n
end Go.Proofs.YtkilblnlplfknaaGreatDoor
end
section
/- Sorted lists of books: what the great laws ask, in plain Lean. -/
namespace Go.Proofs.YtkilblnlplfknaaGreatDoor
open Go.RowKit Go.Proofs.YtkilblnlplfknaaGreatDoorW.PrintWords Go.Proofs.YtkilblnlplfknaaGreatDoorW.PrintMore
set_option linter.unusedVariables false
set_option linter.unusedSimpArgs false
set_option maxRecDepth 100000

/-- How often a list has a book. -/
def cntB (L : List Bk) (b : Bk) : Nat := (L.filter (fun x => decide (x = b))).length
theorem cntB_app (A B : List Bk) (b : Bk) : cntB (A ++ B) b = cntB A b + cntB B b := by
  unfold cntB
  rw [List.filter_append, List.length_append]
theorem cntB_yes {L : List Bk} {b x : Bk} {k : Nat} (h : L[k]? = some x) (e : x = b) : cntB (L.take (k + 1)) b = cntB (L.take k) b + 1 := by
  rw [take_snoc h, cntB_app]
  unfold cntB
  rw [List.filter_cons_of_pos (by simpa using e)]
  rfl
theorem cntB_no {L : List Bk} {b x : Bk} {k : Nat} (h : L[k]? = some x) (e : ¬ x = b) : cntB (L.take (k + 1)) b = cntB (L.take k) b := by
  rw [take_snoc h, cntB_app]
  unfold cntB
  rw [List.filter_cons_of_neg (by simpa using e)]
  rfl
theorem cntB_le (L : List Bk) (b : Bk) : cntB L b ≤ L.length := List.length_filter_le _ _
theorem cntB_stab {lt : Bk → Bk → Bool} (hw : Srt.Wk lt) {L M : List Bk} (h : Srt.Stab lt L M) (b : Bk) : cntB L b = cntB M b := by
  have e : ∀ K : List Bk, K.filter (fun x => decide (x = b)) = (K.filter (Srt.eqv lt b)).filter (fun x => decide (x = b)) := fun K => by
    rw [List.filter_filter]
    apply List.filter_congr
    intro x _
    by_cases hx : x = b
    · subst hx
      rw [Srt.eqv_self hw]
      simp
    · simp [hx]
  unfold cntB
  rw [e L, e M, h b]
theorem cntB_sort {O : List Int} (L : List Bk) (b : Bk) : cntB (Srt.sortL (ltBy O) L) b = cntB L b := (cntB_stab (ltBy_wk O) (Srt.sortL_ok (ltBy_wk O) L).2 b).symm
theorem sort_idem {O : List Int} (L : List Bk) : Srt.sortL (ltBy O) (Srt.sortL (ltBy O) L) = Srt.sortL (ltBy O) L := (Srt.sortL_of (ltBy_wk O) (Srt.sortL_ok (ltBy_wk O) L).1 (Srt.Stab.refl _ _)).symm
theorem sort_len {O : List Int} (L : List Bk) : (Srt.sortL (ltBy O) L).length = L.length := (Srt.Stab.length (ltBy_wk O) (Srt.sortL_ok (ltBy_wk O) L).2).symm
theorem sort_mem {O : List Int} {L : List Bk} {b : Bk} : b ∈ Srt.sortL (ltBy O) L ↔ b ∈ L := (Srt.Stab.mem (ltBy_wk O) (Srt.sortL_ok (ltBy_wk O) L).2 b).symm
theorem vBooks_of {L : List Bk} (h : ∀ b, b ∈ L → vBook b = true) (hl : L.length ≤ 60) : vBooks L = true := by
  unfold vBooks
  rw [Bool.and_eq_true, decide_eq_true_eq, List.all_eq_true]
  exact ⟨hl, h⟩
theorem sort_valid {O : List Int} {L : List Bk} (h : ∀ b, b ∈ L → vBook b = true) (hl : L.length ≤ 60) : vBooks (Srt.sortL (ltBy O) L) = true := vBooks_of (fun b hb => h b (sort_mem.1 hb)) (by rw [sort_len]; exact hl)
theorem sort_up {O : List Int} (L : List Bk) : Srt.Up (ltBy O) (Srt.sortL (ltBy O) L) := (Srt.sortL_ok (ltBy_wk O) L).1
theorem sort_isS (L : List Bk) : isS (Srt.sortL (ltBy usualL) L) = true := up_isS (sort_up L)
/-- Neighbours of a sorted list, compared both ways. -/
theorem up_adj {O : List Int} {L : List Bk} (h : Srt.Up (ltBy O) L) {i j : Nat} {x y : Bk} (hij : i < j) (hx : L[i]? = some x) (hy : L[j]? = some y) : cmpBy O x y ≤ 0 := by
  obtain ⟨h1, rfl⟩ := List.getElem?_eq_some_iff.1 hx
  obtain ⟨h2, rfl⟩ := List.getElem?_eq_some_iff.1 hy
  have := List.pairwise_iff_getElem.1 h i j h1 h2 hij
  unfold ltBy at this
  rw [decide_eq_false_iff_not] at this
  have := (cmpBy_pre O).anti L[j] L[i]
  omega
theorem cmpBy_anti (O : List Int) (x y : Bk) : cmpBy O y x = -cmpBy O x y := (cmpBy_pre O).anti x y
theorem cmpU_anti (x y : Bk) : cmpU y x = -cmpU x y := cmpBy_anti usualL x y
/-- No pair is out of order in a sorted list, and only there. -/
theorem lowIn_zero {b : Bk} {M : List Bk} : lowIn b M = 0 ↔ ∀ a, a ∈ M → ¬ cmpU b a < 0 := by
  unfold lowIn
  rw [List.length_eq_zero_iff, List.filter_eq_nil_iff]
  simp only [decide_eq_true_eq]
theorem pairsN_zero (L : List Bk) : ∀ k, pairsN L k = 0 ↔ ∀ i b, i < k → L[i]? = some b → lowIn b (L.take i) = 0 := by
  intro k
  induction k with
  | zero => exact ⟨fun _ i b h => absurd h (by omega), fun _ => rfl⟩
  | succ k ih =>
    rw [pairsN]
    cases hk : L[k]? with
    | none =>
      simp only [Nat.add_zero]
      rw [ih]
      refine ⟨fun h i b h1 h2 => ?_, fun h i b h1 h2 => h i b (by omega) h2⟩
      by_cases e : i = k
      · rw [e, hk] at h2; cases h2
      · exact h i b (by omega) h2
    | some c =>
      simp only
      refine ⟨fun h i b h1 h2 => ?_, fun h => ?_⟩
      · by_cases e : i = k
        · rw [e, hk] at h2
          obtain rfl := Option.some.inj h2
          rw [e]; omega
        · exact ih.1 (by omega) i b (by omega) h2
      · have h1 := ih.2 (fun i b h1 h2 => h i b (by omega) h2)
        have h2 := h k c (by omega) hk
        omega
theorem pairs_zero {L : List Bk} (h : isS L = true) : pairsL L = 0 := by
  unfold pairsL
  have : pairsN L L.length = 0 := by
    rw [pairsN_zero]
    intro i b hi hb
    rw [lowIn_zero]
    intro a ha
    obtain ⟨j, hj, rfl⟩ := List.mem_take_iff_getElem.1 ha
    have h1 : cmpBy usualL L[j] b ≤ 0 := up_adj (isS_up h) (show j < i by omega) (List.getElem?_eq_getElem (by omega)) hb
    have := cmpBy_anti usualL L[j] b
    show ¬ cmpBy usualL b L[j] < 0
    omega
  rw [this]
  rfl
theorem pairs_pos {L : List Bk} (h : isS L = false) : 0 < pairsL L := by
  rcases Nat.eq_zero_or_pos (pairsN L L.length) with h0 | h0
  · exfalso
    have h1 : isS L = true := by
      rw [isS_iff]
      intro j h2 h3
      have hx := List.getElem?_eq_getElem h3
      have hy : L[j - 1]? = some L[j - 1] := List.getElem?_eq_getElem (by omega)
      rw [outAt_of hx hy, decide_eq_false_iff_not]
      exact lowIn_zero.1 ((pairsN_zero L L.length).1 h0 j L[j] h3 hx) L[j - 1] (List.mem_take_iff_getElem.2 ⟨j - 1, by omega, rfl⟩)
    rw [h] at h1
    cases h1
  · unfold pairsL
    omega
theorem isS_out {L : List Bk} : isS L = true ↔ outOf L < 0 := by
  unfold isS
  rw [decide_eq_true_eq]
/-- Runs begin at rising places. -/
theorem runs_rise (L : List Bk) : (runsL L).Pairwise (fun x y => x < y) := by
  unfold runsL runsN
  rw [List.pairwise_map]
  refine List.Pairwise.imp ?_ (List.pairwise_lt_range.filter _)
  intro a b h
  simp only [Int.ofNat_eq_natCast]
  omega
theorem gap_in {own : List Int} (hr : own.Pairwise (fun x y => x < y)) : ∀ k, k + 1 < own.length + 0 → ∃ i a b, i < k + 1 ∧ own[i]? = some a ∧ own[i + 1]? = some b ∧ (gapN own (k + 1)) = (a, b - a) ∧ 1 ≤ b - a := by
  intro k
  induction k with
  | zero =>
    intro h
    have h0 : own[0]? = some own[0] := List.getElem?_eq_getElem (by omega)
    have h1 : own[0 + 1]? = some own[0 + 1] := List.getElem?_eq_getElem (by omega)
    have hl := List.pairwise_iff_getElem.1 hr 0 (0 + 1) (by omega) (by omega) (by omega)
    refine ⟨0, _, _, by omega, h0, h1, ?_, by omega⟩
    rw [gapN_next h0 h1, if_pos (by show (0 : Int) < _; omega)]
  | succ k ih =>
    intro h
    obtain ⟨i, a, b, hi, ha, hb, he, h1⟩ := ih (by omega)
    have h2 : own[k + 1]? = some own[k + 1] := List.getElem?_eq_getElem (by omega)
    have h3 : own[k + 1 + 1]? = some own[k + 1 + 1] := List.getElem?_eq_getElem (by omega)
    have hl := List.pairwise_iff_getElem.1 hr (k + 1) (k + 1 + 1) (by omega) (by omega) (by omega)
    rw [gapN_next h2 h3]
    by_cases hc : (gapN own (k + 1)).2 < own[k + 1 + 1] - own[k + 1]
    · rw [if_pos hc]
      exact ⟨k + 1, _, _, by omega, h2, h3, rfl, by omega⟩
    · rw [if_neg hc]
      exact ⟨i, a, b, by omega, ha, hb, he, h1⟩
theorem longest_in {L : List Bk} (h : 0 < L.length) : (longest L).1 ∈ runsL L ∧ 1 ≤ (longest L).2 ∧ (longest L).1 + (longest L).2 ≤ (L.length : Int) := by
  have hp : 0 < (runsL L).length := by rw [runsL_cons h]; simp
  have hr : (runsL L ++ [(L.length : Int)]).Pairwise (fun x y => x < y) := by
    rw [List.pairwise_append]
    exact ⟨runs_rise L, List.pairwise_singleton _ _, fun x hx y hy => by rw [List.mem_singleton.1 hy]; exact (runsN_mem hx).2⟩
  obtain ⟨i, a, b, hi, ha, hb, he, h1⟩ := gap_in hr ((runsL L).length - 1) (by simp; omega)
  rw [show (runsL L).length - 1 + 1 = (runsL L).length by omega] at he hi
  have hm : a ∈ runsL L := by
    rw [List.getElem?_append_left hi] at ha
    exact List.mem_of_getElem? ha
  have hbl : b ≤ (L.length : Int) := by
    have := List.mem_of_getElem? hb
    rcases List.mem_append.1 this with h2 | h2
    · have := (runsN_mem h2).2; omega
    · rw [List.mem_singleton.1 h2]; exact Int.le_refl _
  have e : longest L = (a, b - a) := he
  rw [e]
  exact ⟨hm, h1, by show a + (b - a) ≤ _; omega⟩
/-- A book in its place. -/
theorem place_le (b : Bk) (L : List Bk) : placeOf b L ≤ L.length := List.findIdx_le_length
theorem place_lo {b : Bk} {L : List Bk} {y : Bk} (h : y ∈ L.take (placeOf b L)) : ltU b y = false := by
  obtain ⟨j, hj, rfl⟩ := List.mem_take_iff_getElem.1 h
  have h1 : j < List.findIdx (ltU b) L := by unfold placeOf at hj; omega
  have := List.not_of_lt_findIdx h1
  simpa using this
theorem place_at {b y : Bk} {L : List Bk} (h : L[placeOf b L]? = some y) : ltU b y = true := by
  obtain ⟨h1, rfl⟩ := List.getElem?_eq_some_iff.1 h
  exact List.findIdx_getElem (w := h1)
theorem place_hi {b : Bk} {L : List Bk} (hu : Srt.Up ltU L) {y : Bk} (h : y ∈ L.drop (placeOf b L)) : ltU b y = true := by
  rw [List.mem_drop_iff_getElem] at h
  obtain ⟨j, hj, rfl⟩ := h
  have h0 : placeOf b L < L.length := by omega
  have h1 := place_at (List.getElem?_eq_getElem h0)
  rcases Nat.eq_zero_or_pos j with rfl | hj0
  · simpa using h1
  · have := List.pairwise_iff_getElem.1 hu (placeOf b L) (placeOf b L + j) h0 (by omega) (by omega)
    exact ltU_wk.tr1 h1 this
def wideL (L : List Bk) (b : Bk) : List Bk := L.take (placeOf b L) ++ b :: L.drop (placeOf b L)
theorem wide_isS {L : List Bk} (h : isS L = true) (b : Bk) : isS (wideL L b) = true := up_isS (Srt.put_ok ltU_wk (isS_up h) (fun y hy => place_hi (isS_up h) hy) (fun y hy => place_lo hy)).1
theorem wide_len (L : List Bk) (b : Bk) : (wideL L b).length = L.length + 1 := by
  unfold wideL
  have := place_le b L
  simp only [List.length_append, List.length_cons, List.length_take, List.length_drop]
  omega
theorem wide_mem {L : List Bk} {b x : Bk} (h : x ∈ wideL L b) : x = b ∨ x ∈ L := by
  unfold wideL at h
  rcases List.mem_append.1 h with h | h
  · exact .inr (List.mem_of_mem_take h)
  · rcases List.mem_cons.1 h with h | h
    · exact .inl h
    · exact .inr (List.mem_of_mem_drop h)
theorem wide_at (L : List Bk) (b : Bk) : (wideL L b)[placeOf b L]? = some b := by
  unfold wideL
  have := place_le b L
  rw [List.getElem?_append_right (by rw [List.length_take]; omega), List.length_take, show placeOf b L - min (placeOf b L) L.length = 0 by omega]
  rfl
theorem cmp3_zero {x0 x1 x2 y0 y1 y2 : Int} : cmp3 x0 x1 x2 y0 y1 y2 = 0 ↔ x0 = y0 ∧ x1 = y1 ∧ x2 = y2 := by
  unfold cmp3
  by_cases h0 : x0 = y0
  · by_cases h1 : x1 = y1
    · rw [if_pos h0, if_pos h1, cmpI_zero]; exact ⟨fun h => ⟨h0, h1, h⟩, fun h => h.2.2⟩
    · rw [if_pos h0, if_neg h1, cmpI_zero]; exact ⟨fun h => absurd h h1, fun h => absurd h.2.1 h1⟩
  · rw [if_neg h0, cmpI_zero]; exact ⟨fun h => absurd h h0, fun h => absurd h.1 h0⟩
theorem sgn_zero {f : Int} (h : 0 < f) (a b : Bk) : sgnCmp f a b = 0 ↔ num0 (absF f) a = num0 (absF f) b ∧ num1 (absF f) a = num1 (absF f) b ∧ num2 (absF f) a = num2 (absF f) b := by
  unfold sgnCmp
  rw [if_neg (by omega)]
  exact cmp3_zero
/-- Two books are alike in the usual order as they are by class, mark and volume. -/
theorem cmpU_zero {a b : Bk} : cmpU a b = 0 ↔ a.c = b.c ∧ a.m0 = b.m0 ∧ a.m1 = b.m1 ∧ a.m2 = b.m2 ∧ a.v = b.v := by
  have h1 := sgn_zero (f := 1) (by omega) a b
  have h2 := sgn_zero (f := 2) (by omega) a b
  have h3 := sgn_zero (f := 3) (by omega) a b
  have e : cmpU a b = if sgnCmp 1 a b = 0 then (if sgnCmp 2 a b = 0 then (if sgnCmp 3 a b = 0 then 0 else sgnCmp 3 a b) else sgnCmp 2 a b) else sgnCmp 1 a b := rfl
  have a1 : absF 1 = 1 := by decide
  have a2 : absF 2 = 2 := by decide
  have a3 : absF 3 = 3 := by decide
  rw [a1] at h1
  rw [a2] at h2
  rw [a3] at h3
  change sgnCmp 1 a b = 0 ↔ a.c = b.c ∧ (0 : Int) = 0 ∧ (0 : Int) = 0 at h1
  change sgnCmp 2 a b = 0 ↔ a.m0 = b.m0 ∧ a.m1 = b.m1 ∧ a.m2 = b.m2 at h2
  change sgnCmp 3 a b = 0 ↔ a.v = b.v ∧ (0 : Int) = 0 ∧ (0 : Int) = 0 at h3
  simp only [and_true] at h1 h3
  rw [e]
  by_cases e1 : sgnCmp 1 a b = 0
  · rw [if_pos e1]
    by_cases e2 : sgnCmp 2 a b = 0
    · rw [if_pos e2]
      by_cases e3 : sgnCmp 3 a b = 0
      · rw [if_pos e3]
        exact ⟨fun _ => ⟨h1.1 e1, (h2.1 e2).1, (h2.1 e2).2.1, (h2.1 e2).2.2, h3.1 e3⟩, fun _ => rfl⟩
      · rw [if_neg e3]
        exact ⟨fun h => absurd h e3, fun h => absurd (h3.2 h.2.2.2.2) e3⟩
    · rw [if_neg e2]
      exact ⟨fun h => absurd h e2, fun h => absurd (h2.2 ⟨h.2.1, h.2.2.1, h.2.2.2.1⟩) e2⟩
  · rw [if_neg e1]
    exact ⟨fun h => absurd h e1, fun h => absurd (h1.2 h.1) e1⟩
theorem vBook_mk {b : Bk} (h : vBook b = true) : (97 ≤ b.m0 ∧ b.m0 ≤ 122) ∧ (97 ≤ b.m1 ∧ b.m1 ≤ 122) ∧ (97 ≤ b.m2 ∧ b.m2 ≤ 122) := by
  unfold vBook vMark at h
  simp only [Bool.and_eq_true, inR_iff] at h
  exact ⟨h.2.1.1, h.2.1.2.1, h.2.1.2.2⟩
theorem vBook_cl {b : Bk} (h : vBook b = true) : 0 ≤ b.c ∧ b.c ≤ 999 := by
  unfold vBook at h
  simp only [Bool.and_eq_true, inR_iff] at h
  exact h.1
theorem u8_injB {x y : Int} (hx : 97 ≤ x ∧ x ≤ 122) (hy : 97 ≤ y ∧ y ≤ 122) (h : UInt8.ofNat x.toNat = UInt8.ofNat y.toNat) : x = y := by
  have h1 := congrArg UInt8.toNat h
  rw [UInt8.toNat_ofNat', UInt8.toNat_ofNat'] at h1
  omega
theorem mark_iff {a b : Bk} (ha : vBook a = true) (hb : vBook b = true) : ((markS a).toList == (markS b).toList) = true ↔ a.m0 = b.m0 ∧ a.m1 = b.m1 ∧ a.m2 = b.m2 := by
  obtain ⟨a0, a1, a2⟩ := vBook_mk ha
  obtain ⟨b0, b1, b2⟩ := vBook_mk hb
  unfold markS
  rw [Go.Lib.strOfNums_toList, Go.Lib.strOfNums_toList, beq_iff_eq]
  constructor
  · intro h
    simp only [Go.Lib.bytesOf, List.map_cons, List.map_nil, List.cons.injEq, and_true] at h
    exact ⟨u8_injB a0 b0 h.1, u8_injB a1 b1 h.2.1, u8_injB a2 b2 h.2.2⟩
  · rintro ⟨h0, h1, h2⟩
    rw [h0, h1, h2]
theorem fb_iff {x b : Bk} (hx : vBook x = true) (hb : vBook b = true) : fbP x.c (markS x) x.v b = true ↔ cmpU b x = 0 := by
  unfold fbP
  rw [Bool.and_eq_true, Bool.and_eq_true, decide_eq_true_eq, decide_eq_true_eq, mark_iff hb hx, cmpU_zero]
  exact ⟨fun h => ⟨h.1, h.2.1.1, h.2.1.2.1, h.2.1.2.2, h.2.2⟩, fun h => ⟨h.1, ⟨h.2.1, h.2.2.1, h.2.2.2.1⟩, h.2.2.2.2⟩⟩
/-- The book is found, at its place or before it, and no equal one is ahead of it. -/
theorem find_wide {L : List Bk} {b : Bk} (hv : vBooks L = true) (hl : L.length ≤ 59) (hs : isS L = true) (hb : vBook b = true) :
    ∃ k : Nat, fbV (wideL L b) (fbP b.c (markS b) b.v) = (k : Int) ∧ fbE (wideL L b) (fbP b.c (markS b) b.v) = 0 ∧ k ≤ placeOf b L ∧ k < (wideL L b).length ∧ (∀ y, (wideL L b)[k]? = some y → cmpU y b = 0) ∧ (∀ y, 0 < k → (wideL L b)[k - 1]? = some y → cmpU y b ≠ 0) := by
  have hall : ∀ y, y ∈ wideL L b → vBook y = true := fun y hy => by
    rcases wide_mem hy with rfl | hy
    · exact hb
    · unfold vBooks at hv
      rw [Bool.and_eq_true, List.all_eq_true] at hv
      exact hv.2 y hy
  have hw : vBooks (wideL L b) = true := vBooks_of hall (by rw [wide_len]; omega)
  have hc : sCode (wideL L b) = 0 := sCode_zero.2 ⟨hw, wide_isS hs b⟩
  have hat := wide_at L b
  have hp : fbP b.c (markS b) b.v b = true := (fb_iff hb hb).2 (cmpU_zero.2 ⟨rfl, rfl, rfl, rfl, rfl⟩)
  have hany : (wideL L b).any (fbP b.c (markS b) b.v) = true := List.any_eq_true.2 ⟨b, List.mem_of_getElem? hat, hp⟩
  have hlt : (wideL L b).findIdx (fbP b.c (markS b) b.v) < (wideL L b).length := List.findIdx_lt_length_of_exists ⟨b, List.mem_of_getElem? hat, hp⟩
  refine ⟨(wideL L b).findIdx (fbP b.c (markS b) b.v), ?_, ?_, ?_, hlt, ?_, ?_⟩
  · rw [(fb_ok hc).1]
    unfold idxF
    rw [if_pos hany, if_neg (by omega)]
  · rw [(fb_ok hc).2]
    unfold idxF
    rw [if_pos hany, if_neg (by omega)]
  · rcases Nat.lt_or_ge (placeOf b L) ((wideL L b).findIdx (fbP b.c (markS b) b.v)) with h | h
    · have h1 := List.not_of_lt_findIdx h
      obtain ⟨h2, h3⟩ := List.getElem?_eq_some_iff.1 hat
      rw [h3, hp] at h1
      exact absurd h1 (by decide)
    · exact h
  · intro y hy
    obtain ⟨h1, rfl⟩ := List.getElem?_eq_some_iff.1 hy
    have h2 : fbP b.c (markS b) b.v (wideL L b)[(wideL L b).findIdx (fbP b.c (markS b) b.v)] = true := List.findIdx_getElem (w := h1)
    exact (fb_iff hb (hall _ (List.getElem_mem h1))).1 h2
  · intro y h0 hy h4
    obtain ⟨h1, rfl⟩ := List.getElem?_eq_some_iff.1 hy
    have h2 := List.not_of_lt_findIdx (p := fbP b.c (markS b) b.v) (xs := wideL L b) (i := (wideL L b).findIdx (fbP b.c (markS b) b.v) - 1) (by omega)
    rw [(fb_iff hb (hall _ (List.getElem_mem h1))).2 h4] at h2
    exact absurd h2 (by decide)
/-- The books of some classes lie between the bounds that are told. -/
theorem class_le {L : List Bk} (hu : Srt.Up ltU L) {n : Int} {i : Nat} {b : Bk} (h : L[i]? = some b) : L.findIdx (fun x => decide (n ≤ x.c)) ≤ i ↔ n ≤ b.c := by
  obtain ⟨h1, rfl⟩ := List.getElem?_eq_some_iff.1 h
  constructor
  · intro h2
    have h3 : L.findIdx (fun x => decide (n ≤ x.c)) < L.length := by omega
    have h4 : decide (n ≤ L[L.findIdx (fun x => decide (n ≤ x.c))].c) = true := List.findIdx_getElem (p := fun x : Bk => decide (n ≤ x.c)) (w := h3)
    rw [decide_eq_true_eq] at h4
    rcases Nat.lt_or_ge (L.findIdx (fun x => decide (n ≤ x.c))) i with h5 | h5
    · have := cmpU_class (List.pairwise_iff_getElem.1 hu _ i h3 h1 h5)
      omega
    · have h6 : L.findIdx (fun x => decide (n ≤ x.c)) = i := by omega
      rw [← show L[L.findIdx (fun x => decide (n ≤ x.c))] = L[i] by congr 1]
      exact h4
  · intro h2
    rcases Nat.lt_or_ge i (L.findIdx (fun x => decide (n ≤ x.c))) with h3 | h3
    · have := List.not_of_lt_findIdx h3
      simp only [Bool.not_eq_true, decide_eq_false_iff_not] at this
      omega
    · exact h3
theorem range_le (L : List Bk) {lo hi : Int} (h : lo ≤ hi + 1) : L.findIdx (fun x => decide (lo ≤ x.c)) ≤ L.findIdx (fun x => decide (hi + 1 ≤ x.c)) := by
  rcases Nat.lt_or_ge (L.findIdx (fun x => decide (hi + 1 ≤ x.c))) (L.findIdx (fun x => decide (lo ≤ x.c))) with h1 | h1
  · exfalso
    have h2 := List.not_of_lt_findIdx h1
    have h3 : L.findIdx (fun x => decide (hi + 1 ≤ x.c)) < L.length := Nat.lt_of_lt_of_le h1 List.findIdx_le_length
    have h4 : decide (hi + 1 ≤ L[L.findIdx (fun x => decide (hi + 1 ≤ x.c))].c) = true := List.findIdx_getElem (p := fun x : Bk => decide (hi + 1 ≤ x.c)) (w := h3)
    simp only [Bool.not_eq_true, decide_eq_false_iff_not, decide_eq_true_eq] at h2 h4
    omega
  · exact h1
end Go.Proofs.YtkilblnlplfknaaGreatDoor
end
section
/- Two lists of books are equal: slices.Equal, SameBooks, the reference's. -/
namespace Go.Proofs.YtkilblnlplfknaaGreatDoor
open Go.RowKit Go.Proofs.YtkilblnlplfknaaGreatDoorW.PrintWords Go.Proofs.YtkilblnlplfknaaGreatDoorW.PrintMore
set_option linter.unusedVariables false
set_option linter.unusedSimpArgs false
set_option maxRecDepth 100000

theorem info_u8 : ∃ i, Tryz.prog.info? 5 = some i ∧ i.size = 1 := by
  have h : (Tryz.prog.info? 5).map (fun i => i.size) = some 1 := by kernel_rfl
  obtain ⟨i, h1, h2⟩ := Option.map_eq_some_iff.1 h
  exact ⟨i, h1, h2⟩
theorem agg_u8 (w : World) : (isAgg 5).run Tryz.prog w = .ok false w := by kernel_rfl
/-- Three bytes against three bytes. -/
theorem arr3_eq (x y z x' y' z' : Int) (w : World) : (Op.equalIn 9999 28 (.agg #[.int .u8 x, .int .u8 y, .int .u8 z]) (.agg #[.int .u8 x', .int .u8 y', .int .u8 z'])).run Tryz.prog w = .ok (decide (x = x' ∧ y = y' ∧ z = z')) w := by
  obtain ⟨i, hi, hs⟩ := info_u8
  rw [run_equalIn_array w 9998 _ _ Tryz.underlying28 hi]
  have hc : Tryz.prog.cellsOf 5 = 1 := by kernel_rfl
  rw [hc, show List.range 3 = [0, 1, 2] from rfl]
  have e1 : ∀ (a b : Int) (w : World), (Op.equalIn 9998 5 (.int .u8 a) (.int .u8 b)).run Tryz.prog w = .ok (a == b) w := fun a b w => run_equalIn_int w 9997 5 .u8 .u8 a b Tryz.underlying5
  simp only [Op.eqItems, Sem.run_bind, part, agg_u8, Result.andThen_ok, Bool.false_eq_true, if_false]
  by_cases h0 : x = x' <;> by_cases h1 : y = y' <;> by_cases h2 : z = z' <;> simp [part, agg_u8, e1, h0, h1, h2]
theorem bk_same {b b' : Bk} (h0 : b.c = b'.c) (h1 : ¬(b.m0 = b'.m0 → b.m1 = b'.m1 → ¬b.m2 = b'.m2)) (h2 : b.v = b'.v) (h3 : b.wd = b'.wd) (h4 : b.h = b'.h) (h5 : b.wt = b'.wt) : b = b' := by
  cases b; cases b'
  simp only [Bk.mk.injEq] at *
  simp_all
set_option maxHeartbeats 2000000 in
theorem l01Same_c (A A' : Option Addr) (c c' : Nat) (L L' : List Bk) (w : World) (hL : kBk.C w A L.length L) (hL' : kBk.C w A' L'.length L') : Calls Tryz.prog 43 #[.slice A L.length c, .slice A' L'.length c'] w (Ret w (.bool (decide (L = L')))) := by
  have hm := Kd.C_max hL
  have hm' := Kd.C_max hL'
  have HL := Aside0.mk hL
  have HL' := Aside0.mk hL'
  clear hL hL'
  by_cases hll : L.length = L'.length
  · have HLL := Aside0.mk hll
    have hb0 : ((L.length : Int) != (L'.length : Int)) = false := by simp [hll]
    have hb0' : (L.length != L'.length) = false := by simp [hll]
    clear hll
    go_enter Tryz.func43, Tryz.ntmps43
    go_wp2
    go_loopg [5] L.length (fun gk v wr => ∃ k : Nat, k + gk = L.length ∧ v = .int .i64 k ∧ Aside0 (L.take k = L'.take k) ∧ Aside0 (Below w.heap.size w wr))
    case atStart => exact ⟨0, by omega, rfl, ⟨by simp⟩, ⟨Below.refl _ _⟩⟩
    case round =>
      clear hb0 hb0'
      obtain ⟨k, hk, rfl, hp, hb⟩ := hrel
      have HK := Aside0.mk hk
      by_cases hlt : k < L.length
      · have hlt' : k < L'.length := by have := HLL.out; omega
        obtain ⟨ad, b, rfl, hbk, x0, x1, x2, x3, x4, x5, x6, x7⟩ := at_bk (Kd.C_below HL.out hb.out) k (by omega)
        obtain ⟨ad', b', rfl, hbk', y0, y1, y2, y3, y4, y5, y6, y7⟩ := at_bk (Kd.C_below HL'.out hb.out) k (by omega)
        clear hk
        have i0 : (0 : Int) ≤ (k : Int) := by omega
        have i1 : (k : Int) < (L.length : Int) := by omega
        have i2 : (k : Int) < (L'.length : Int) := by omega
        have hqn := arr3_eq b.m0 b.m1 b.m2 b'.m0 b'.m1 b'.m2
        by_cases hbb : b = b'
        · have HD := Aside0.mk (show decide (b = b') = true by simp [hbb])
          have HN := Aside0.mk (show L.take (k + 1) = L'.take (k + 1) by rw [take_snoc hbk.out, take_snoc hbk'.out, hp.out, hbb])
          clear HD
          subst hbb
          simp only [and_self, decide_true] at hqn
          go_wp2_with fail
          go_still_tail 8, (by kernel_rfl)
          go_wp2
          go_roundg (gk - 1)
          case measure => have := HK.out; omega
          case rel => exact ⟨k + 1, by have := HK.out; omega, by go_num, HN, ⟨bdrewN hb.out _⟩⟩
        · have HD := Aside0.mk (show decide (b = b') = false by simp [hbb])
          have HN := Aside0.mk (show L ≠ L' from fun h => hbb (by have h1 := hbk.out; rw [h, hbk'.out] at h1; injection h1 with h1; exact h1.symm))
          have HBB := Aside0.mk hbb
          clear hbb HD
          go_wp2_with fail
          go_still_tail 8, (by kernel_rfl)
          go_wp2
          all_goals first
            | exact absurd (bk_same ‹b.c = b'.c› ‹¬(b.m0 = b'.m0 → b.m1 = b'.m1 → ¬b.m2 = b'.m2)› ‹b.v = b'.v› ‹b.wd = b'.wd› ‹b.h = b'.h› ‹b.wt = b'.wt›) HBB.out
            | (go_ret; exact ⟨ret_bool (decide_eq_false HN.out).symm, bdrewN hb.out _⟩)
      · have HE := Aside0.mk (show L = L' by have h1 := hp.out; have h2 := HLL.out; rwa [List.take_of_length_le (by omega), List.take_of_length_le (by omega)] at h1)
        clear hk
        go_wp2
        go_ret
        exact ⟨ret_bool (decide_eq_true HE.out).symm, hb.out⟩
  · have hb0 : ((L.length : Int) != (L'.length : Int)) = true := by simp; omega
    have hb0' : (L.length != L'.length) = true := by simpa using hll
    have HN := Aside0.mk (show L ≠ L' from fun h => hll (by rw [h]))
    clear hll
    go_enter Tryz.func43, Tryz.ntmps43
    go_wp2
    all_goals (go_ret; exact ⟨ret_bool (decide_eq_false HN.out).symm, Below.refl _ _⟩)
theorem specSameBooks_c (A A' : Option Addr) (c c' : Nat) (L L' : List Bk) (w : World) (hL : kBk.C w A L.length L) (hL' : kBk.C w A' L'.length L') : Calls Tryz.prog 15 #[.slice A L.length c, .slice A' L'.length c'] w (Ret w (.bool (decide (L = L')))) := by
  have HC := Aside0.mk (l01Same_c A A' c c' L L' w hL hL')
  clear hL hL'
  go_enter Tryz.func15, Tryz.ntmps15
  go_wp2_with fail
  refine HC.out.mono ?_; rintro _ w1 ⟨rfl, hb1⟩
  go_wp2_with fail
  go_ret
  exact ⟨rfl, hb1⟩
end Go.Proofs.YtkilblnlplfknaaGreatDoor
end
section
/- Regions that draw their order and whose callees may lay blocks of their own, walked once. -/
namespace Go.Proofs.YtkilblnlplfknaaGreatDoor
open Go.RowKit Go.Proofs.YtkilblnlplfknaaGreatDoorW.PrintWords Go.Proofs.YtkilblnlplfknaaGreatDoorW.PrintMore
set_option linter.unusedVariables false
set_option linter.unusedSimpArgs false
set_option maxRecDepth 100000

/-- A world that has grown out of w, what lay below kept. -/
structure Over (w : World) where
  W : World
  h : Below w.heap.size w W
instance (w : World) : Inhabited (Over w) := ⟨⟨w, Below.refl _ _⟩⟩
theorem region_over {P : Program} {id : Nat} {Q : Exit → Act → World → Prop} {a : Act} {w : World} {l : List Oper} (hm : P.follows .mixedOrders = true) (hB : Region.lexB .any l.toArray = true)
    (h : wpQuiet P l.toArray (fun w' => ∃ p : Over w, w' = p.W) (fun a' => ∀ w', (∃ p : Over w, w' = p.W) → Q .normal a' w') l a) : (Code.region id l.toArray true).wp P Q a w :=
  wp_region_quiet (C := fun w' => ∃ p : Over w, w' = p.W) hm hB ⟨⟨w.drew, bdrew (Below.refl _ _)⟩, rfl⟩ (by simpa using h)
theorem Calls.over_of {P : Program} {f : FuncId} {args : Array Value} {w : World} {p : Over w} {v : Value} (h : Calls P f args p.W (Ret p.W v)) : Calls P f args p.W (fun e w'' => e = .returned v ∧ ∃ q : Over w, w'' = q.W) :=
  h.mono fun e w' h => ⟨h.1, ⟨w', bstep p.h h.2⟩, rfl⟩
theorem over_out {w w' : World} (h : ∃ p : Over w, w' = p.W) : Below w.heap.size w w' := by
  obtain ⟨p, hp⟩ := h
  rw [hp]; exact p.h
/-- A cell of an old block. -/
theorem Over.cell {w : World} {a : Addr} {v : Value} (h : w.cell? a = some v) (p : Over w) : p.W.cell? a = some v := pw_cell_below p.h h
end Go.Proofs.YtkilblnlplfknaaGreatDoor
end
section
/- How often a list has a book: the reference's. -/
namespace Go.Proofs.YtkilblnlplfknaaGreatDoor
open Go.RowKit Go.Proofs.YtkilblnlplfknaaGreatDoorW.PrintWords Go.Proofs.YtkilblnlplfknaaGreatDoorW.PrintMore
set_option linter.unusedVariables false
set_option linter.unusedSimpArgs false
set_option maxRecDepth 100000

set_option maxHeartbeats 4000000 in
theorem l07Count_c (A : Option Addr) (c : Nat) (L : List Bk) (b : Bk) (w : World) (hL : kBk.C w A L.length L) (hn : L.length ≤ 1000) : Calls Tryz.prog 44 #[.slice A L.length c, b.val] w (Ret w (.int .i64 ((cntB L b : Nat) : Int))) := by
  have hx := BkAt.box w b 30
  have hb0 : Below w.heap.size w (w.alloc (.cells #[.int .i16 b.c, .int .u8 b.m0, .int .u8 b.m1, .int .u8 b.m2, .int .i16 b.v, .int .i16 b.wd, .int .i16 b.h, .int .i16 b.wt] 30)) := balloc (Below.refl _ _) _
  have HL := Aside0.mk hL
  clear hL
  simp only [Bk.val]
  go_enter Tryz.func44, Tryz.ntmps44
  go_wp2
  generalize World.alloc w _ = W1 at hx hb0 ⊢
  have HX := Aside0.mk hx
  have HB := Aside0.mk hb0
  clear hx hb0
  go_loopg [5, 6] L.length (fun gk v5 v6 wr => ∃ k : Nat, k + gk = L.length ∧ v6 = .int .i64 k ∧ v5 = .int .i64 ((cntB (L.take k) b : Nat) : Int) ∧ Aside0 (Below W1.heap.size W1 wr))
  case atStart => exact ⟨0, by omega, rfl, rfl, ⟨Below.refl _ _⟩⟩
  case round =>
    obtain ⟨k, hk, rfl, rfl, hb⟩ := hrel
    have HK := Aside0.mk hk
    by_cases hlt : k < L.length
    · obtain ⟨ad, x, rfl, hbk, x0, x1, x2, x3, x4, x5, x6, x7⟩ := at_bk (Kd.C_below HL.out (bstep HB.out hb.out)) k (by omega)
      obtain ⟨y0, y1, y2, y3, y4, y5, y6, y7⟩ := HX.out.below hb.out
      have hcl : cntB (L.take k) b ≤ 1000 := Nat.le_trans (cntB_le _ _) (by rw [List.length_take]; omega)
      clear hk
      have i0 : (0 : Int) ≤ (k : Int) := by omega
      have i1 : (k : Int) < (L.length : Int) := by omega
      have hqn := arr3_eq x.m0 x.m1 x.m2 b.m0 b.m1 b.m2
      by_cases hbb : x = b
      · have HN := Aside0.mk (cntB_yes hbk.out hbb)
        subst hbb
        simp only [and_self, decide_true] at hqn
        generalize cntB (L.take k) x = m at HN hcl ⊢
        go_wp2_with fail
        go_still_tail 5, (by kernel_rfl)
        go_wp2
        go_roundg (gk - 1)
        case measure => have := HK.out; omega
        case rel => exact ⟨k + 1, by have := HK.out; omega, by go_num, by rw [HN.out]; go_num, ⟨bdrewN hb.out _⟩⟩
      · have HN := Aside0.mk (cntB_no hbk.out hbb)
        have HBB := Aside0.mk hbb
        clear hbb
        generalize cntB (L.take k) b = m at HN hcl ⊢
        go_wp2_with fail
        go_still_tail 5, (by kernel_rfl)
        go_wp2
        all_goals first
          | exact absurd (bk_same ‹x.c = b.c› ‹¬(x.m0 = b.m0 → x.m1 = b.m1 → ¬x.m2 = b.m2)› ‹x.v = b.v› ‹x.wd = b.wd› ‹x.h = b.h› ‹x.wt = b.wt›) HBB.out
          | (go_roundg (gk - 1)
             case measure => have := HK.out; omega
             case rel => exact ⟨k + 1, by have := HK.out; omega, by go_num, by rw [HN.out], ⟨bdrewN hb.out _⟩⟩)
    · have e9 : L.take k = L := List.take_of_length_le (by omega)
      rw [e9]
      clear hk e9
      go_wp2
      go_ret
      exact ⟨rfl, bstep HB.out hb.out⟩
set_option maxHeartbeats 1000000 in
theorem CountOf_c (A : Option Addr) (c : Nat) (L : List Bk) (b : Bk) (w : World) (hL : kBk.C w A L.length L) (hn : L.length ≤ 1000) : Calls Tryz.prog 16 #[.slice A L.length c, b.val] w (Ret w (.int .i64 ((cntB L b : Nat) : Int))) := by
  have hx := BkAt.box w b 30
  have hb0 : Below w.heap.size w (w.alloc (.cells #[.int .i16 b.c, .int .u8 b.m0, .int .u8 b.m1, .int .u8 b.m2, .int .i16 b.v, .int .i16 b.wd, .int .i16 b.h, .int .i16 b.wt] 30)) := balloc (Below.refl _ _) _
  have HS := Aside0.mk (fun W h => l07Count_c A c L b W h hn)
  have HL := Aside0.mk (Kd.C_below hL hb0)
  clear hL
  generalize ((cntB L b : Nat) : Int) = n at HS ⊢
  simp only [Bk.val] at HS ⊢
  go_enter Tryz.func16, Tryz.ntmps16
  go_wp2_with fail
  generalize World.alloc w _ = W1 at hx hb0 HL ⊢
  have HB := Aside0.mk hb0
  obtain ⟨y0, y1, y2, y3, y4, y5, y6, y7⟩ := hx
  clear hb0
  go_wp2_with fail
  refine (HS.out W1 HL.out).mono ?_; rintro _ w2 ⟨rfl, hb⟩
  have HB2 := Aside0.mk (bstep HB.out hb)
  clear hb y0 y1 y2 y3 y4 y5 y6 y7
  go_wp2
  go_ret
  exact ⟨rfl, HB2.out⟩
end Go.Proofs.YtkilblnlplfknaaGreatDoor
end
