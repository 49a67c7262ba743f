/- Texts of this proof that belong together: CmpT, MapB, Order, CmpU, Valid, Out, RunM, Sorted, Runs, RunsV, CompareBy, PlaceM, SCode, Place, Sort, Merge, Pairs, Long, TotL, Tot, TotS, Cnt, Find, Range, PlB, Same, Over, CntF, SrcB, PlO. No condition. -/
import Derived.Test.YtkoaangakmpggaaGreatDoorB2
import Derived.StillTailTactics
import Derived.Still
import Derived.Maps.OwnOps
import Derived.Maps.OwnSet
import Derived.Maps.Views
import Derived.Deep.QuietTactic
import Derived.BigQuiet
import Derived.Lib.Bytes
import Derived.ChangeKeysEq
import Derived.Deep.RegionWith
import Derived.Deep.RegionHeld3
import Derived.BigRegion
import Derived.RegionTactic
import Derived.ChangeAlike
import Derived.Laws.BitsLemmas
import Derived.Deep.RegionLaw
section
/- Comparing two books by an order: the reference's. -/
namespace Go.Proofs.YtkoaangakmpggaaGreatDoor
open Go.RowKit Go.Proofs.YtkoaangakmpggaaGreatDoorW.PrintWords Go.Proofs.YtkoaangakmpggaaGreatDoorW.PrintMore
set_option linter.unusedVariables false
set_option linter.unusedSimpArgs false
set_option maxRecDepth 100000

structure ArrAt (w : World) (n : Nat) (x y z : Int) : Prop where
  c0 : w.cell? ⟨n, 0, none⟩ = some (.int .i64 x)
  c1 : w.cell? ⟨n, 1, none⟩ = some (.int .i64 y)
  c2 : w.cell? ⟨n, 2, none⟩ = some (.int .i64 z)
theorem ArrAt.lt {w : World} {n : Nat} {x y z : Int} (h : ArrAt w n x y z) : n < w.heap.size := World.block_lt_of_cell? w ⟨n, 0, none⟩ h.c0
theorem ArrAt.below {w w1 : World} {n : Nat} {x y z : Int} (h : ArrAt w n x y z) (hb : Below w.heap.size w w1) : ArrAt w1 n x y z :=
  ⟨(hb.cell (p := ⟨n, 0, none⟩) h.lt).trans h.c0, (hb.cell (p := ⟨n, 1, none⟩) h.lt).trans h.c1, (hb.cell (p := ⟨n, 2, none⟩) h.lt).trans h.c2⟩
theorem ArrAt.box (w : World) (x y z : Int) (t : TypeId) : ArrAt (w.alloc (.cells #[.int .i64 x, .int .i64 y, .int .i64 z] t)) w.heap.size x y z :=
  ⟨(blk_cell (blk_new w _) 0).trans rfl, (blk_cell (blk_new w _) 1).trans rfl, (blk_cell (blk_new w _) 2).trans rfl⟩
def OrdOk (L : List Int) : Prop := ∀ x ∈ L, I8 x ∧ x ≠ 0
theorem sgn_eq {x : Int} {a b : Bk} (h0 : num0 (absF x) a = num0 (absF x) b) (h1 : num1 (absF x) a = num1 (absF x) b) (h2 : num2 (absF x) a = num2 (absF x) b) : sgnCmp x a b = 0 := by
  have : fldCmp (absF x) a b = 0 := by unfold fldCmp cmp3; rw [if_pos h0, if_pos h1, cmpI_eq h2]
  unfold sgnCmp
  rw [this]
  split <;> rfl
def sg (x u v : Int) : Int := if decide (u < v) = decide (0 < x) then -1 else 1
theorem sg_ne (x u v : Int) : sg x u v ≠ 0 := by unfold sg; split <;> decide
theorem sg_of {x u v : Int} (hx : x ≠ 0) (h : u ≠ v) : (if x < 0 then -cmpI u v else cmpI u v) = sg x u v := by
  unfold sg
  by_cases h1 : u < v
  · rw [cmpI_lt h1]
    by_cases h2 : 0 < x
    · rw [if_neg (by omega)]; simp [h1, h2]
    · rw [if_pos (by omega)]; simp [h1, h2]
  · rw [cmpI_gt (by omega)]
    by_cases h2 : 0 < x
    · rw [if_neg (by omega)]; simp [h1, h2]
    · rw [if_pos (by omega)]; simp [h1, h2]
theorem sgn_0 {x : Int} {a b : Bk} (hx : x ≠ 0) (h0 : num0 (absF x) a ≠ num0 (absF x) b) : sgnCmp x a b = sg x (num0 (absF x) a) (num0 (absF x) b) := by
  have : fldCmp (absF x) a b = cmpI (num0 (absF x) a) (num0 (absF x) b) := by unfold fldCmp cmp3; rw [if_neg h0]
  unfold sgnCmp
  rw [this]
  exact sg_of hx h0
theorem sgn_1 {x : Int} {a b : Bk} (hx : x ≠ 0) (h0 : num0 (absF x) a = num0 (absF x) b) (h1 : num1 (absF x) a ≠ num1 (absF x) b) : sgnCmp x a b = sg x (num1 (absF x) a) (num1 (absF x) b) := by
  have : fldCmp (absF x) a b = cmpI (num1 (absF x) a) (num1 (absF x) b) := by unfold fldCmp cmp3; rw [if_pos h0, if_neg h1]
  unfold sgnCmp
  rw [this]
  exact sg_of hx h1
theorem sgn_2 {x : Int} {a b : Bk} (hx : x ≠ 0) (h0 : num0 (absF x) a = num0 (absF x) b) (h1 : num1 (absF x) a = num1 (absF x) b) (h2 : num2 (absF x) a ≠ num2 (absF x) b) : sgnCmp x a b = sg x (num2 (absF x) a) (num2 (absF x) b) := by
  have : fldCmp (absF x) a b = cmpI (num2 (absF x) a) (num2 (absF x) b) := by unfold fldCmp cmp3; rw [if_pos h0, if_pos h1]
  unfold sgnCmp
  rw [this]
  exact sg_of hx h2
theorem sg_t {x u v : Int} (h : (decide (u < v) == decide (0 < x)) = true) : sg x u v = -1 := by unfold sg; rw [if_pos (by simpa using h)]
theorem sg_f {x u v : Int} (h : (decide (u < v) == decide (0 < x)) = false) : sg x u v = 1 := by unfold sg; rw [if_neg (by simpa using h)]
set_option maxHeartbeats 8000000 in
theorem l01Compare_c (A : Option Addr) (c : Nat) (L : List Int) (pa pb : Addr) (a b : Bk) (hoa : a.ok) (hob : b.ok) (w : World) (hL : (Kd.int .i8).C w A L.length L) (hk : OrdOk L) (ha : BkAt w pa a) (hb : BkAt w pb b) :
    Calls Tryz.prog 65 #[.slice A L.length c, .pointer (some pa), .pointer (some pb)] w (Ret w (.int .i64 (cmpBy L a b))) := by
  have hm := Kd.C_max hL
  have HL := Aside0.mk hL
  have HKK := Aside0.mk hk
  have HA := Aside0.mk ha
  have HB := Aside0.mk hb
  have HNA := Aside0.mk (fun f W h => l01Numbers_c f a hoa pa W h)
  have HNB := Aside0.mk (fun f W h => l01Numbers_c f b hob pb W h)
  simp only [nums] at HNA HNB
  clear hL hk ha hb hoa hob
  go_enter Tryz.func65, Tryz.ntmps65
  go_wp2
  go_loopg [7] L.length (fun gk v wr => ∃ k : Nat, k + gk = L.length ∧ v = .int .i64 k ∧ Aside0 (cmpBy (L.drop k) a b = cmpBy L a b) ∧ Aside0 (Below w.heap.size w wr))
  case atStart => exact ⟨0, by omega, rfl, ⟨by simp⟩, ⟨Below.refl _ _⟩⟩
  case round =>
    obtain ⟨k, hk, rfl, hp, hb⟩ := hrel
    have HK := Aside0.mk hk
    by_cases hlt : k < L.length
    · obtain ⟨ad, x, rfl, hx, hc⟩ := at_int' (Kd.C_below HL.out hb.out) k (by omega)
      have HF := Aside0.mk (l01Field_c x (HKK.out x (mem_of hx.out)).1)
      have HX0 := Aside0.mk (HKK.out x (mem_of hx.out)).2
      clear hk
      have i0 : (0 : Int) ≤ (k : Int) := by omega
      have i1 : (k : Int) < (L.length : Int) := by omega
      go_wp2_with fail
      refine (HF.out _).mono ?_; rintro _ w1 ⟨rfl, rfl⟩
      go_wp2_with fail
      refine (HNA.out _ _ (HA.out.below hb.out)).mono ?_; rintro _ w1 ⟨rfl, hb1⟩
      have HB1 := Aside0.mk (bstep hb.out hb1)
      clear hb1 hc
      go_wp2_with fail
      have HC1 := Aside0.mk (ArrAt.box w1 (num0 (absF x) a) (num1 (absF x) a) (num2 (absF x) a) 122)
      have HB2 := Aside0.mk (balloc HB1.out (.cells #[.int .i64 (num0 (absF x) a), .int .i64 (num1 (absF x) a), .int .i64 (num2 (absF x) a)] 122))
      generalize World.alloc w1 _ = w2 at HC1 HB2 ⊢
      refine (HNB.out _ _ (HB.out.below HB2.out)).mono ?_; rintro _ w3 ⟨rfl, hb3⟩
      have HB3 := Aside0.mk (bstep HB2.out hb3)
      have HC3 := Aside0.mk (HC1.out.below hb3)
      clear hb3
      go_wp2_with fail
      have HC4 := Aside0.mk (HC3.out.below (balloc (Below.refl _ _) (.cells #[.int .i64 (num0 (absF x) b), .int .i64 (num1 (absF x) b), .int .i64 (num2 (absF x) b)] 122)))
      have HD4 := Aside0.mk (ArrAt.box w3 (num0 (absF x) b) (num1 (absF x) b) (num2 (absF x) b) 122)
      have HB4 := Aside0.mk (balloc HB3.out (.cells #[.int .i64 (num0 (absF x) b), .int .i64 (num1 (absF x) b), .int .i64 (num2 (absF x) b)] 122))
      generalize World.alloc w3 _ = w4 at HC4 HD4 HB4 ⊢
      obtain ⟨ad', x', e', hx', hc4⟩ := at_int' (Kd.C_below HL.out HB4.out) k (by omega)
      injection e' with e'
      subst e'
      have hxx := hx'.out
      rw [hx.out] at hxx
      injection hxx with hxx
      subst hxx
      clear hx'
      obtain ⟨c0, c1, c2⟩ := HC4.out
      obtain ⟨d0, d1, d2⟩ := HD4.out
      clear HC1 HC3 HC4 HD4 HB1 HB2 HB3
      generalize w1.heap.size = n9 at c0 c1 c2 ⊢
      generalize w3.heap.size = n10 at d0 d1 d2 ⊢
      clear w1 w2 w3
      have h0 := @sgn_0 x a b HX0.out
      have h1 := @sgn_1 x a b HX0.out
      have h2 := @sgn_2 x a b HX0.out
      have h3 := @sgn_eq x a b
      generalize num0 (absF x) a = x0 at c0 h0 h1 h2 h3 ⊢
      generalize num1 (absF x) a = x1 at c1 h1 h2 h3 ⊢
      generalize num2 (absF x) a = x2 at c2 h2 h3 ⊢
      generalize num0 (absF x) b = y0 at d0 h0 h1 h2 h3 ⊢
      generalize num1 (absF x) b = y1 at d1 h1 h2 h3 ⊢
      generalize num2 (absF x) b = y2 at d2 h2 h3 ⊢
      by_cases e0 : x0 = y0
      · by_cases e1 : x1 = y1
        · by_cases e2 : x2 = y2
          · have HR := Aside0.mk (show cmpBy (L.drop (k + 1)) a b = cmpBy L a b by rw [← hp.out, cmpBy_eq hx.out (h3 e0 e1 e2)])
            have q0 : (x0 == y0) = true := by simpa using e0
            have q1 : (x1 == y1) = true := by simpa using e1
            have q2 : (x2 == y2) = true := by simpa using e2
            clear h0 h1 h2 h3 e0 e1 e2
            refine wp_loop_rounds 4 ?_
            iterate 3 (rw [rounds_succ]; go_wp2_with fail; go_quiet (fail); go_wp2)
            rw [rounds_succ]
            go_wp2_with fail
            go_roundg (gk - 1)
            case measure => have := HK.out; omega
            case rel => exact ⟨k + 1, by have := HK.out; omega, by go_num, HR, ⟨by repeat (first | exact HB4.out | refine bdrewN ?_ _)⟩⟩
          · have HR := Aside0.mk (show cmpBy L a b = sg x x2 y2 by rw [← hp.out, cmpBy_ne hx.out (by rw [h2 e0 e1 e2]; exact sg_ne _ _ _), h2 e0 e1 e2])
            have q0 : (x0 == y0) = true := by simpa using e0
            have q1 : (x1 == y1) = true := by simpa using e1
            have q2 : (x2 == y2) = false := by simpa using e2
            clear h0 h1 h2 h3 e0 e1 e2
            refine wp_loop_rounds 3 ?_
            iterate 2 (rw [rounds_succ]; go_wp2_with fail; go_quiet (fail); go_wp2)
            rw [rounds_succ]
            go_wp2_with fail
            go_quiet (fail)
            go_wp2
            go_quiet (fail)
            go_wp2
            all_goals first
              | (go_ret; exact ⟨ret_int (by rw [HR.out]; exact (sg_t ‹_›).symm), by repeat (first | exact HB4.out | refine bdrewN ?_ _)⟩)
              | (go_ret; exact ⟨ret_int (by rw [HR.out]; exact (sg_f ‹_›).symm), by repeat (first | exact HB4.out | refine bdrewN ?_ _)⟩)
        · have HR := Aside0.mk (show cmpBy L a b = sg x x1 y1 by rw [← hp.out, cmpBy_ne hx.out (by rw [h1 e0 e1]; exact sg_ne _ _ _), h1 e0 e1])
          have q0 : (x0 == y0) = true := by simpa using e0
          have q1 : (x1 == y1) = false := by simpa using e1
          clear h0 h1 h2 h3 e0 e1
          refine wp_loop_rounds 2 ?_
          iterate 1 (rw [rounds_succ]; go_wp2_with fail; go_quiet (fail); go_wp2)
          rw [rounds_succ]
          go_wp2_with fail
          go_quiet (fail)
          go_wp2
          go_quiet (fail)
          go_wp2
          all_goals first
            | (go_ret; exact ⟨ret_int (by rw [HR.out]; exact (sg_t ‹_›).symm), by repeat (first | exact HB4.out | refine bdrewN ?_ _)⟩)
            | (go_ret; exact ⟨ret_int (by rw [HR.out]; exact (sg_f ‹_›).symm), by repeat (first | exact HB4.out | refine bdrewN ?_ _)⟩)
      · have HR := Aside0.mk (show cmpBy L a b = sg x x0 y0 by rw [← hp.out, cmpBy_ne hx.out (by rw [h0 e0]; exact sg_ne _ _ _), h0 e0])
        have q0 : (x0 == y0) = false := by simpa using e0
        clear h0 h1 h2 h3 e0
        refine wp_loop_rounds 1 ?_
        rw [rounds_succ]
        go_wp2_with fail
        go_quiet (fail)
        go_wp2
        go_quiet (fail)
        go_wp2
        all_goals first
          | (go_ret; exact ⟨ret_int (by rw [HR.out]; exact (sg_t ‹_›).symm), by repeat (first | exact HB4.out | refine bdrewN ?_ _)⟩)
          | (go_ret; exact ⟨ret_int (by rw [HR.out]; exact (sg_f ‹_›).symm), by repeat (first | exact HB4.out | refine bdrewN ?_ _)⟩)
    · have HR := Aside0.mk (show cmpBy L a b = 0 by rw [← hp.out, List.drop_eq_nil_of_le (by omega)]; rfl)
      clear hk
      go_wp2
      go_ret
      exact ⟨ret_int HR.out.symm, hb.out⟩
end Go.Proofs.YtkoaangakmpggaaGreatDoor
end
section
/- Sets kept as maps to bools: the look-up of a bool, and what such a map holds. No condition. -/
namespace Go.Proofs.YtkoaangakmpggaaGreatDoor
open Go.Maps (Keyed IsMap setOf)
set_option linter.unusedVariables false
set_option linter.unusedSimpArgs false
theorem plainElem_bool_inv {H : Type} {P : Program} {e : TypeId} (he : P.underlying e = some .bool) {v : Value} {z : DataW H × List MemPlace} (h : plainElem P e v = some z) : ∃ c, v = .bool c ∧ z = (.lit (.bool c), []) := by
  unfold plainElem at h
  rw [he] at h
  cases v <;> simp at h
  exact ⟨_, rfl, h.symm⟩
/-- 'm[k]' at bools: some c, of which 'hat' says what it is. -/
theorem wpList_lookup_own_bool {H : Type} {P : Program} (w : World) {ops : Array Oper} {rest : List Oper} {o : Oper} {a : Act} {Q : Exit → Act → World → Prop}
    (hg : o.guard = none) (m x : Operand) (t : TypeId) (hop : o.op = Op.lookup t m x false)
    (k e : TypeId) (K : Keyed P k) (ht : P.underlying t = some (.map k e)) (he : P.underlying e = some .bool) (hz : (zeroValue e).run P w = .ok (.bool false) w) (b n : Nat) (D : DataW H)
    (hm : a.eval m = .map (some b)) (hown : w.ownsMap P k (plainElem P e) b n D) (key : Value) (kl : Lit) (hx : a.eval x = key) (hkey : keyOf P k key = some kl)
    (hK : ∀ c : Bool, D.atKey kl (.lit (.bool false)) = .lit (.bool c) → wpList P ops Q rest (a.put o.dst (.bool c)) w) :
    wpList P ops Q (o :: rest) a w := by
  refine wpList_plain hg fun K' hK' => ?_
  obtain ⟨v, ps, hrun, hv⟩ := hown.lookup K ht hz (plainElem_bool he false) hkey
  obtain ⟨c, rfl, hc⟩ := plainElem_bool_inv he hv
  simp only [Prod.mk.injEq] at hc
  unfold Oper.wp
  simp [execOp, hop, hm, hx, hrun, Result.andThen]
  exact hK' _ _ (hK c hc.1)
/-- 'm[k]' at bools, as an equation on the operation's run. -/
theorem lookup_bool {H : Type} {P : Program} {w : World} {t k e : TypeId} {b n : Nat} {D : DataW H} (h : w.ownsMap P k (plainElem P e) b n D) (K : Keyed P k) (ht : P.underlying t = some (.map k e)) (he : P.underlying e = some .bool) (hz : (zeroValue e).run P w = .ok (.bool false) w)
    {key : Value} {kl : Lit} (hkey : keyOf P k key = some kl) {c : Bool} (hat : D.atKey kl (.lit (.bool false)) = .lit (.bool c)) : (Instr.lookup t (.map (some b)) key false).run P w = .ok (.bool c) w := by
  obtain ⟨v, ps, hrun, hv⟩ := h.lookup K ht hz (plainElem_bool he false) hkey
  obtain ⟨c', rfl, hc⟩ := plainElem_bool_inv he hv
  simp only [Prod.mk.injEq] at hc
  rw [hat] at hc
  have h1 := hc.1
  injection h1 with h1
  injection h1 with h1
  rw [hrun, h1]
/-- A set of whole numbers as such a map. -/
def setI (q : IntKind) (xs : List Int) : DataW Unit := setOf (.lit (.bool true)) (xs.map (Lit.int q))
theorem setI_snoc (q : IntKind) (xs : List Int) (x : Int) : setI q (xs ++ [x]) = (setI q xs).put (.int q x) (.lit (.bool true)) := by
  unfold setI; rw [List.map_append, List.map_cons, List.map_nil, Maps.setOf_snoc]
theorem setI_map (q : IntKind) (xs : List Int) : IsMap (setI q xs) := by
  unfold setI
  exact (Maps.tidy_setOf _ _ (by intro x hx; obtain ⟨n, _, rfl⟩ := List.mem_map.1 hx; trivial)).isMap
theorem setI_at (q : IntKind) (x : Int) : ∀ (n : Nat) (xs : List Int), xs.length = n → (setI q xs).atKey (.int q x) (.lit (.bool false)) = .lit (.bool (decide (x ∈ xs))) := by
  intro n
  induction n with
  | zero => intro xs h; rw [List.eq_nil_of_length_eq_zero h]; rfl
  | succ n ih =>
    intro xs h
    obtain ⟨ys, y, rfl⟩ : ∃ T y, xs = T ++ [y] := by
      have hne : xs ≠ [] := by intro h'; rw [h'] at h; simp at h
      exact ⟨xs.dropLast, xs.getLast hne, (List.dropLast_concat_getLast hne).symm⟩
    have hl : ys.length = n := by simpa using h
    rw [setI_snoc]
    by_cases e : x = y
    · subst e
      rw [Maps.atKey_put_same (setI_map q ys) (k := .int q x) (show WideAt.IsKeyLit (.int q x) from trivial)]
      simp
    · rw [Maps.atKey_put_other (by intro h'; injection h' with _ h'; exact e h'), ih ys hl]
      simp [e]
theorem setI_size (q : IntKind) (xs : List Int) : Maps.size (setI q xs) = ((xs.map (Lit.int q)).foldl Maps.addKey []).length := Maps.size_setOf _ _ (by intro x hx; obtain ⟨n, _, rfl⟩ := List.mem_map.1 hx; trivial)
end Go.Proofs.YtkoaangakmpggaaGreatDoor
end
section
/- A list is an order: the program's ValidOrder and the reference's. -/
namespace Go.Proofs.YtkoaangakmpggaaGreatDoor
open Go.RowKit Go.Proofs.YtkoaangakmpggaaGreatDoorW.PrintWords Go.Proofs.YtkoaangakmpggaaGreatDoorW.PrintMore
set_option linter.unusedVariables false
set_option linter.unusedSimpArgs false
set_option maxRecDepth 100000

open Go.Maps (Keyed)
def ordAt (L : List Int) (k : Nat) : Bool := match L[k]? with
  | some x => inR (absF x) 1 6 && !decide (absF x ∈ (L.take k).map absF)
  | none => true
def vOrd (L : List Int) : Bool := decide (0 < L.length) && (List.range L.length).all (ordAt L)
theorem ordAt_of {L : List Int} {k : Nat} {x : Int} (h : L[k]? = some x) : ordAt L k = (inR (absF x) 1 6 && !decide (absF x ∈ (L.take k).map absF)) := by unfold ordAt; rw [h]
theorem vOrd_hit {L : List Int} {k : Nat} (hk : k < L.length) (h : ordAt L k = false) : vOrd L = false := by
  unfold vOrd
  rw [Bool.and_eq_false_iff]
  right
  rw [List.all_eq_false]
  exact ⟨k, List.mem_range.2 hk, by simp [h]⟩
theorem vOrd_all {L : List Int} (h : ∀ i, i < L.length → ordAt L i = true) : vOrd L = decide (0 < L.length) := by
  unfold vOrd
  rw [List.all_eq_true.2 (fun i hi => h i (List.mem_range.1 hi)), Bool.and_true]
theorem ord_next {L : List Int} {k : Nat} (h : ∀ i, i < k → ordAt L i = true) (hk : ordAt L k = true) : ∀ i, i < k + 1 → ordAt L i = true := by
  intro i hi
  by_cases e : i = k
  · rw [e]; exact hk
  · exact h i (by omega)
/-- Different numbers from 1 to n are at most n. -/
theorem few_of : ∀ (n : Nat) (M : List Int), M.Pairwise (fun x y => x ≠ y) → (∀ x, x ∈ M → 1 ≤ x ∧ x ≤ (n : Int)) → M.length ≤ n := by
  intro n
  induction n with
  | zero =>
    intro M _ h
    cases M with
    | nil => exact Nat.le_refl _
    | cons x M => have := h x List.mem_cons_self; omega
  | succ n ih =>
    intro M hp h
    have h1 := ih (M.filter (fun x => decide (x ≠ ((n + 1 : Nat) : Int)))) (hp.filter _) (fun x hx => by
      have h2 := List.mem_filter.1 hx
      have h3 := h x h2.1
      have h4 : x ≠ ((n + 1 : Nat) : Int) := by simpa using h2.2
      omega)
    have h5 : ∀ (M : List Int), M.Pairwise (fun x y => x ≠ y) → M.length ≤ (M.filter (fun x => decide (x ≠ ((n + 1 : Nat) : Int)))).length + 1 := by
      intro M hp
      induction M with
      | nil => simp
      | cons x M ih2 =>
        have hp2 := List.pairwise_cons.1 hp
        by_cases e : x = ((n + 1 : Nat) : Int)
        · rw [List.filter_cons_of_neg (by simp [e])]
          have : M.filter (fun x => decide (x ≠ ((n + 1 : Nat) : Int))) = M := by
            rw [List.filter_eq_self]
            intro y hy
            have := hp2.1 y hy
            simp only [ne_eq, decide_eq_true_eq]
            intro h6
            exact this (by rw [e, h6])
          rw [this]
          simp
        · rw [List.filter_cons_of_pos (by simpa using e)]
          have := ih2 hp2.2
          simp only [List.length_cons]
          omega
    have := h5 M hp
    omega
theorem ord_few {L : List Int} (h : ∀ i, i < L.length → ordAt L i = true) : L.length ≤ 6 := by
  have h1 := few_of 6 (L.map absF) (by
    rw [List.pairwise_iff_getElem]
    intro i j hi hj hij
    simp only [List.length_map] at hi hj
    have := h j hj
    rw [ordAt_of (List.getElem?_eq_getElem hj)] at this
    simp only [Bool.and_eq_true, Bool.not_eq_true', decide_eq_false_iff_not] at this
    rw [List.getElem_map, List.getElem_map]
    intro e
    exact this.2 (by rw [← e]; exact List.mem_map.2 ⟨L[i], List.mem_take_iff_getElem.2 ⟨i, by omega, rfl⟩, rfl⟩)) (by
    intro x hx
    obtain ⟨y, hy, rfl⟩ := List.mem_map.1 hx
    obtain ⟨i, hi, rfl⟩ := List.mem_iff_getElem.1 hy
    have := h i hi
    rw [ordAt_of (List.getElem?_eq_getElem hi)] at this
    simp only [Bool.and_eq_true] at this
    have := inR_iff.1 this.1
    omega)
  rwa [List.length_map] at h1
theorem ord_end {L : List Int} (h : ∀ i, i < L.length → ordAt L i = true) : inR (L.length : Int) 1 6 = vOrd L := by
  have := ord_few h
  rw [vOrd_all h, Bool.eq_iff_iff, inR_iff, decide_eq_true_eq]
  omega
theorem within8_c (n lo hi : Int) (w : World) : Calls Tryz.prog 50 #[.int .i8 n, .int .i8 lo, .int .i8 hi] w (RetS w (.bool (inR n lo hi))) := by
  go_enter Tryz.func50, Tryz.ntmps50
  go_wp2
  all_goals (go_ret; refine ⟨ret_bool ?_, rfl⟩; unfold inR; rw [Bool.eq_iff_iff]; simp; omega)
theorem withinI_c (n lo hi : Int) (w : World) : Calls Tryz.prog 52 #[.int .i64 n, .int .i64 lo, .int .i64 hi] w (RetS w (.bool (inR n lo hi))) := by
  go_enter Tryz.func52, Tryz.ntmps52
  go_wp2
  all_goals (go_ret; refine ⟨ret_bool ?_, rfl⟩; unfold inR; rw [Bool.eq_iff_iff]; simp; omega)
theorem key8 : Keyed Tryz.prog 34 := Maps.int_keyed Tryz.underlying34
theorem zeroB (w : World) : (zeroValue 4).run Tryz.prog w = .ok (.bool false) w := by kernel_rfl
theorem absF_i8 {x : Int} (h : I8 x) : I8 (absF x) := by unfold I8 absF at *; (repeat' split) <;> omega
theorem wf_i8 {x : Int} (h : I8 x) : (Lit.int .i8 x).wf = true := WalkArith.wf_i8 h
set_option maxHeartbeats 4000000 in
theorem ValidOrder_c (A : Option Addr) (c : Nat) (L : List Int) (w : World) (hL : (Kd.int .i8).C w A L.length L) (hk : ∀ x ∈ L, I8 x) :
    Calls Tryz.prog 17 #[.slice A L.length c] w (Ret w (.bool (vOrd L))) := by
  have hm := Kd.C_max hL
  have HL := Aside0.mk hL
  have HKK := Aside0.mk hk
  clear hL hk
  have hmm := @run_makeMap Tryz.prog
  go_enter Tryz.func17, Tryz.ntmps17
  go_wp2
  clear hmm
  go_loopg [9] L.length (fun gk v wr => ∃ k : Nat, k + gk = L.length ∧ v = .int .i64 k ∧ Aside0 (∀ i, i < k → ordAt L i = true) ∧ Aside0 (wr.ownsMap Tryz.prog 34 (plainElem Tryz.prog 4) w.heap.size k (setI .i8 ((L.take k).map absF))) ∧ Aside0 (Below w.heap.size w wr))
  case atStart => exact ⟨0, by omega, rfl, ⟨fun i h => absurd h (by omega)⟩, ⟨World.ownsMap_made _ _ _ _⟩, ⟨balloc (Below.refl _ _) _⟩⟩
  case round =>
    obtain ⟨k, hk, rfl, hp, hM, hb⟩ := hrel
    have HK := Aside0.mk hk
    by_cases hlt : k < L.length
    · obtain ⟨ad, x, rfl, hx, hc⟩ := at_int' (Kd.C_below HL.out hb.out) k (by omega)
      have hI := HKK.out x (mem_of hx.out)
      have HF := Aside0.mk (field_c x hI)
      have HO := Aside0.mk (ordAt_of hx.out)
      have HKY := Aside0.mk (Maps.keyOf_int_mk Tryz.underlying34 (wf_i8 (absF_i8 hI)))
      have HSN := Aside0.mk (setI_snoc .i8 ((L.take k).map absF) (absF x))
      have HTS := Aside0.mk (take_snoc hx.out)
      have HAT := Aside0.mk (setI_at .i8 (absF x) _ ((L.take k).map absF) rfl)
      clear hk hI
      obtain ⟨f, hf⟩ : ∃ f, absF x = f := ⟨_, rfl⟩
      rw [hf] at HF HO HKY HSN HAT
      have HFE := Aside0.mk hf
      clear hf
      cases h1 : inR f 1 6
      · have HR := Aside0.mk (vOrd_hit hlt (by rw [HO.out, h1]; rfl))
        have HW := Aside0.mk (fun W => within8_c f 1 6 W)
        rw [h1] at HW
        clear h1
        go_wp2_with (first | (go_at_call 51; refine (HF.out _).mono ?_; rintro _ w1 ⟨rfl, rfl⟩) | (go_at_call 50; refine (HW.out _).mono ?_; rintro _ w1 ⟨rfl, rfl⟩))
        go_ret
        exact ⟨ret_bool HR.out.symm, hb.out⟩
      · have HW := Aside0.mk (fun W => within8_c f 1 6 W)
        rw [h1] at HW
        by_cases h2 : f ∈ (L.take k).map absF
        · have HR := Aside0.mk (vOrd_hit hlt (by rw [HO.out, h1, decide_eq_true h2]; rfl))
          have HAT2 := Aside0.mk (show (setI .i8 ((L.take k).map absF)).atKey (.int .i8 f) (.lit (.bool false)) = .lit (.bool true) by rw [HAT.out, decide_eq_true h2])
          have hrun := lookup_bool hM.out key8 Tryz.underlying73 Tryz.underlying4 (zeroB _) HKY.out HAT2.out
          clear h1 h2
          go_wp2_with (first | (go_at_call 51; refine (HF.out _).mono ?_; rintro _ w1 ⟨rfl, rfl⟩) | (go_at_call 50; refine (HW.out _).mono ?_; rintro _ w1 ⟨rfl, rfl⟩))
          go_ret
          exact ⟨ret_bool HR.out.symm, hb.out⟩
        · have HR := Aside0.mk (ord_next hp.out (by rw [HO.out, h1, decide_eq_false h2]; rfl))
          have HAT2 := Aside0.mk (show (setI .i8 ((L.take k).map absF)).atKey (.int .i8 f) (.lit (.bool false)) = .lit (.bool false) by rw [HAT.out, decide_eq_false h2])
          have hrun := lookup_bool hM.out key8 Tryz.underlying73 Tryz.underlying4 (zeroB _) HKY.out HAT2.out
          clear h1 h2
          go_wp2_with (first | (go_at_call 51; refine (HF.out _).mono ?_; rintro _ w1 ⟨rfl, rfl⟩) | (go_at_call 50; refine (HW.out _).mono ?_; rintro _ w1 ⟨rfl, rfl⟩) | (at_mapUpdate; refine wpList_mapUpdate_own _ rfl _ _ _ 73 rfl 34 4 key8 Tryz.underlying73 _ w.heap.size k _ rfl hM.out (by unfold maxLen; omega) _ _ _ rfl rfl HKY.out _ [] (plainElem_bool Tryz.underlying4 true) ?_; intro w2 hM2 hg2; have HM2 := Aside0.mk hM2; have HG2 := Aside0.mk hg2; clear hM2 hg2))
          go_roundg (gk - 1)
          case measure => have := HK.out; omega
          case rel => exact ⟨k + 1, by have := HK.out; omega, by go_num, HR, ⟨by rw [HTS.out, List.map_append, List.map_cons, List.map_nil, HFE.out, HSN.out]; exact HM2.out⟩, ⟨hb.out.grown HG2.out hb.out.size (fun j hj => by injection hj with hj; omega)⟩⟩
    · have HR := Aside0.mk (ord_end (L := L) (fun i hi => hp.out i (by omega)))
      have HW := Aside0.mk (fun W => withinI_c (L.length : Int) 1 6 W)
      rw [HR.out] at HW
      clear hk
      go_wp2_with (go_at_call 52; refine (HW.out _).mono ?_; rintro _ w1 ⟨rfl, rfl⟩)
      go_ret
      exact ⟨rfl, hb.out⟩
/-- Seven bools: which numbers are among M. -/
def bsA (M : List Int) : Array Value := #[.bool (decide ((0 : Int) ∈ M)), .bool (decide ((1 : Int) ∈ M)), .bool (decide ((2 : Int) ∈ M)), .bool (decide ((3 : Int) ∈ M)), .bool (decide ((4 : Int) ∈ M)), .bool (decide ((5 : Int) ∈ M)), .bool (decide ((6 : Int) ∈ M))]
theorem bsA_at (M : List Int) {q : Nat} (h : q < 7) : (bsA M)[q]? = some (.bool (decide ((q : Int) ∈ M))) := by
  match q, h with
  | 0, _ => rfl
  | 1, _ => rfl
  | 2, _ => rfl
  | 3, _ => rfl
  | 4, _ => rfl
  | 5, _ => rfl
  | 6, _ => rfl
theorem bsA_set (M : List Int) {q : Nat} (h : q < 7) : (bsA M).setIfInBounds q (.bool true) = bsA (M ++ [(q : Int)]) := by
  match q, h with
  | 0, _ => simp [bsA, List.mem_append]
  | 1, _ => simp [bsA, List.mem_append]
  | 2, _ => simp [bsA, List.mem_append]
  | 3, _ => simp [bsA, List.mem_append]
  | 4, _ => simp [bsA, List.mem_append]
  | 5, _ => simp [bsA, List.mem_append]
  | 6, _ => simp [bsA, List.mem_append]
set_option maxHeartbeats 4000000 in
theorem l01Order_c (A : Option Addr) (c : Nat) (L : List Int) (w : World) (hL : (Kd.int .i8).C w A L.length L) (hk : ∀ x ∈ L, I8 x) :
    Calls Tryz.prog 36 #[.slice A L.length c] w (Ret w (.bool (vOrd L))) := by
  have hm := Kd.C_max hL
  have HL := Aside0.mk hL
  have HKK := Aside0.mk hk
  clear hL hk
  have H0 := Aside0.mk (blk_new w (.cells (bsA []) 85))
  have HB0 := Aside0.mk (balloc (Below.refl w.heap.size w) (.cells (bsA []) 85))
  simp only [bsA, List.not_mem_nil, decide_false] at H0 HB0
  go_enter Tryz.func36, Tryz.ntmps36
  go_wp2
  go_loopg [4] L.length (fun gk v wr => ∃ k : Nat, k + gk = L.length ∧ v = .int .i64 k ∧ Aside0 (∀ i, i < k → ordAt L i = true) ∧ Aside0 (wr.heap[w.heap.size]? = some (.cells (bsA ((L.take k).map absF)) 85 (0, 0))) ∧ Aside0 (Below w.heap.size w wr))
  case atStart => exact ⟨0, by omega, rfl, ⟨fun i h => absurd h (by omega)⟩, ⟨by simpa [bsA] using H0.out⟩, HB0⟩
  case round =>
    clear H0 HB0
    obtain ⟨k, hk, rfl, hp, hM, hb⟩ := hrel
    have HK := Aside0.mk hk
    by_cases hlt : k < L.length
    · obtain ⟨ad, x, rfl, hx, hc⟩ := at_int' (Kd.C_below HL.out hb.out) k (by omega)
      have hI := HKK.out x (mem_of hx.out)
      have HF := Aside0.mk (l01Field_c x hI)
      have HO := Aside0.mk (ordAt_of hx.out)
      have HTS := Aside0.mk (take_snoc hx.out)
      have i0 : (0 : Int) ≤ (k : Int) := by omega
      have i1 : (k : Int) < (L.length : Int) := by omega
      obtain ⟨f0, f9⟩ := absF_i8 hI
      clear hk hI
      cases h1 : inR (absF x) 1 6
      · have HR := Aside0.mk (vOrd_hit hlt (by rw [HO.out, h1]; rfl))
        have HW := Aside0.mk (fun W => l00In_c (absF x) 1 6 W)
        rw [h1] at HW
        clear h1 HO
        generalize absF x = f at HF HW f0 f9
        go_wp2_with (first | (go_at_call 62; refine (HF.out _).mono ?_; rintro _ w1 ⟨rfl, rfl⟩) | (go_at_call 63; refine (HW.out _).mono ?_; rintro _ w1 ⟨rfl, rfl⟩))
        go_ret
        exact ⟨ret_bool HR.out.symm, hb.out⟩
      · have HW := Aside0.mk (fun W => l00In_c (absF x) 1 6 W)
        rw [h1] at HW
        have h6 := inR_iff.1 h1
        clear f0 f9
        obtain ⟨q, hq⟩ : ∃ q : Nat, absF x = (q : Int) := ⟨(absF x).toNat, by omega⟩
        have HFE := Aside0.mk hq
        rw [hq] at HF HW HO h1 h6
        have q1 : (1 : Int) ≤ (q : Int) := h6.1
        have q6 : (q : Int) ≤ 6 := h6.2
        have q7 : (q : Int) < 7 := by omega
        have hq7 : q < 7 := by omega
        clear hq h6
        have hcell := (blk_cell hM.out q).trans (bsA_at _ hq7)
        have hfr := blk_frozen hM.out q
        have hlb := blk_lt hM.out
        have HST := Aside0.mk (blk_set hM.out q (.bool true))
        rw [bsA_set _ hq7] at HST
        by_cases h2 : (q : Int) ∈ (L.take k).map absF
        · have HR := Aside0.mk (vOrd_hit hlt (by rw [HO.out, h1, decide_eq_true h2]; rfl))
          rw [decide_eq_true h2] at hcell
          clear h1 h2 HO
          go_wp2_with (first | (go_at_call 62; refine (HF.out _).mono ?_; rintro _ w1 ⟨rfl, rfl⟩) | (go_at_call 63; refine (HW.out _).mono ?_; rintro _ w1 ⟨rfl, rfl⟩))
          go_ret
          exact ⟨ret_bool HR.out.symm, hb.out⟩
        · have HR := Aside0.mk (ord_next hp.out (by rw [HO.out, h1, decide_eq_false h2]; rfl))
          rw [decide_eq_false h2] at hcell
          clear h1 h2 HO
          go_wp2_with (first | (go_at_call 62; refine (HF.out _).mono ?_; rintro _ w1 ⟨rfl, rfl⟩) | (go_at_call 63; refine (HW.out _).mono ?_; rintro _ w1 ⟨rfl, rfl⟩))
          go_roundg (gk - 1)
          case measure => have := HK.out; omega
          case rel => exact ⟨k + 1, by have := HK.out; omega, by go_num, HR, ⟨by rw [HTS.out, List.map_append, List.map_cons, List.map_nil, HFE.out]; exact HST.out⟩, ⟨Below.setCell hb.out (by simp) _⟩⟩
    · have HR := Aside0.mk (vOrd_all (L := L) (fun i hi => hp.out i (by omega)))
      clear hk
      go_wp2
      go_ret
      exact ⟨ret_bool (by rw [HR.out]), hb.out⟩
end Go.Proofs.YtkoaangakmpggaaGreatDoor
end
section
/- Comparing two books in the usual order: the program's CompareBooks and the reference's. -/
namespace Go.Proofs.YtkoaangakmpggaaGreatDoor
open Go.RowKit Go.Proofs.YtkoaangakmpggaaGreatDoorW.PrintWords Go.Proofs.YtkoaangakmpggaaGreatDoorW.PrintMore
set_option linter.unusedVariables false
set_option linter.unusedSimpArgs false
set_option maxRecDepth 100000

theorem usualL_ord : OrdOk usualL := by
  intro x hx
  refine ⟨usualL_ok x hx, ?_⟩
  simp only [usualL, List.mem_cons, List.not_mem_nil, or_false] at hx
  omega
set_option maxHeartbeats 2000000 in
theorem l01Usual_c (pa pb : Addr) (a b : Bk) (hoa : a.ok) (hob : b.ok) (w : World) (ha : BkAt w pa a) (hb : BkAt w pb b) :
    Calls Tryz.prog 44 #[.pointer (some pa), .pointer (some pb)] w (Ret w (.int .i64 (cmpU a b))) := by
  have hu := three_C (w.alloc (.cells #[.int .i8 1, .int .i8 2, .int .i8 3] 34)) w.heap.size 0 1 2 3 ((blk_cell (blk_new w _) 0).trans rfl) ((blk_cell (blk_new w _) 1).trans rfl) ((blk_cell (blk_new w _) 2).trans rfl)
  have HX := Aside0.mk (l01Compare_c (some ⟨w.heap.size, 0, none⟩) 3 usualL pa pb a b hoa hob _ hu usualL_ord (ha.below (balloc (Below.refl _ _) _)) (hb.below (balloc (Below.refl _ _) _)))
  clear hu ha hb hoa hob
  go_enter Tryz.func44, Tryz.ntmps44
  go_wp2_with fail
  refine HX.out.mono ?_; rintro _ w1 ⟨rfl, hb1⟩
  go_wp2_with fail
  go_ret
  exact ⟨rfl, bstep (balloc (Below.refl _ _) _) hb1⟩
set_option maxHeartbeats 2000000 in
theorem specCompareBooks_c (a b : Bk) (hoa : a.ok) (hob : b.ok) (w : World) : Calls Tryz.prog 21 #[a.val, b.val] w (Ret w (.int .i64 (cmpU a b))) := by
  obtain ⟨hbw, ha, hb⟩ := box_two w a b _ (Below.refl _ _)
  have HX := Aside0.mk (l01Usual_c _ _ a b hoa hob _ ha hb)
  have HBW := Aside0.mk hbw
  clear hbw ha hb hoa hob
  simp only [Bk.val]
  go_enter Tryz.func21, Tryz.ntmps21
  go_wp2_with fail
  refine HX.out.mono ?_; rintro _ w1 ⟨rfl, hb1⟩
  go_wp2_with fail
  go_ret
  exact ⟨rfl, bstep HBW.out hb1⟩
set_option maxHeartbeats 2000000 in
theorem CompareBooks_c (a b : Bk) (w : World) : Calls Tryz.prog 20 #[a.val, b.val] w (Ret w (.int .i64 (cmpU a b))) := by
  obtain ⟨hbw, ha, hb⟩ := box_two w a b _ (Below.refl _ _)
  have HX := Aside0.mk (fun W => compare_c a b W)
  have HBW := Aside0.mk hbw
  obtain ⟨p0, p1, p2, p3, p4, p5, p6, p7⟩ := ha
  obtain ⟨q0, q1, q2, q3, q4, q5, q6, q7⟩ := hb
  clear hbw
  simp only [Bk.val] at HX ⊢
  go_enter Tryz.func20, Tryz.ntmps20
  go_wp2_with fail
  refine (HX.out _).mono ?_; rintro _ w1 ⟨rfl, hb1⟩
  go_wp2_with fail
  go_ret
  exact ⟨rfl, bstep HBW.out hb1⟩
end Go.Proofs.YtkoaangakmpggaaGreatDoor
end
section
/- A list of books is valid: the program's ValidBooks and the reference's. -/
namespace Go.Proofs.YtkoaangakmpggaaGreatDoor
open Go.RowKit Go.Proofs.YtkoaangakmpggaaGreatDoorW.PrintWords Go.Proofs.YtkoaangakmpggaaGreatDoorW.PrintMore
set_option linter.unusedVariables false
set_option linter.unusedSimpArgs false
set_option maxRecDepth 100000

def vBooks (L : List Bk) : Bool := decide (L.length ≤ 60) && L.all vBook
def OkL (L : List Bk) : Prop := ∀ b, b ∈ L → b.ok
theorem ValidBooks_c (A : Option Addr) (c : Nat) (L : List Bk) (w : World) (hL : kBk.C w A L.length L) :
    Calls Tryz.prog 16 #[.slice A L.length c] w (Ret w (.bool (vBooks L))) := by
  have HA := Aside0.mk (areAllBk_c A c L 49 #[] vBook w hL ⟨_, Tryz.func49, rfl, rfl⟩ (fun W _ x _ => ValidBook_c x W))
  have hm := Kd.C_max hL
  clear hL
  by_cases h : L.length ≤ 60
  · have HV := Aside0.mk (show vBooks L = L.all vBook by simp [vBooks, h])
    go_enter Tryz.func16, Tryz.ntmps16
    go_wp2_with (go_at_call 48; refine HA.out.mono ?_; rintro _ w1 ⟨rfl, hb1⟩)
    all_goals (go_ret; exact ⟨ret_bool HV.out.symm, hb1⟩)
  · have HV := Aside0.mk (show vBooks L = false by simp [vBooks, h])
    go_enter Tryz.func16, Tryz.ntmps16
    go_wp2
    all_goals (go_ret; exact ⟨ret_bool HV.out.symm, Below.refl _ _⟩)

theorem all_hit {α : Type} {L : List α} {p : α → Bool} {k : Nat} {x : α} (hx : L[k]? = some x) (hp : p x = false) : L.all p = false := by
  rw [Bool.eq_false_iff]
  intro h
  have h2 := List.all_eq_true.1 h x (mem_of hx)
  rw [hp] at h2
  cases h2
theorem all_end {α : Type} {L : List α} {p : α → Bool} {k : Nat} (h : ∀ x, x ∈ L.take k → p x = true) (hk : L.length ≤ k) : L.all p = true := by
  rw [List.take_of_length_le hk] at h
  exact List.all_eq_true.2 h
theorem all_next {α : Type} {L : List α} {p : α → Bool} {k : Nat} {x : α} (h : ∀ x, x ∈ L.take k → p x = true) (hx : L[k]? = some x) (hp : p x = true) : ∀ x, x ∈ L.take (k + 1) → p x = true := by
  intro y hy
  rw [take_snoc hx] at hy
  rcases List.mem_append.1 hy with hy | hy
  · exact h y hy
  · rw [List.mem_singleton.1 hy]; exact hp

theorem l01Ok_c (A : Option Addr) (c : Nat) (L : List Bk) (hok : OkL L) (w : World) (hL : kBk.C w A L.length L) :
    Calls Tryz.prog 37 #[.slice A L.length c] w (Ret w (.bool (vBooks L))) := by
  have hm := Kd.C_max hL
  have HL := Aside0.mk hL
  have HO := Aside0.mk hok
  clear hL hok
  go_enter Tryz.func37, Tryz.ntmps37
  go_wp2
  go_loopg [3] L.length (fun gk v wr => ∃ k : Nat, k + gk = L.length ∧ v = .int .i64 k ∧ Aside0 (∀ x, x ∈ L.take k → vBook x = true) ∧ Aside0 (Below w.heap.size w wr))
  case atStart => exact ⟨0, by omega, rfl, ⟨by simp⟩, ⟨Below.refl _ _⟩⟩
  case round =>
    obtain ⟨k, hk, rfl, hp, hb⟩ := hrel
    have HK := Aside0.mk hk
    by_cases hlt : k < L.length
    · obtain ⟨ad, b, rfl, hbk, ha⟩ := at_bk' (Kd.C_below HL.out hb.out) k (by omega)
      have HA := Aside0.mk (l01Book_c b (HO.out b (mem_of hbk.out)) _ _ ha)
      clear hk ha
      cases hvb : vBook b
      · have HV := Aside0.mk (all_hit hbk.out hvb)
        rw [hvb] at HA
        clear hvb
        go_wp2_with (go_at_call 64; refine HA.out.mono ?_; rintro _ w1 ⟨rfl, hb1⟩)
        all_goals (go_ret; exact ⟨ret_bool (by simp [vBooks, HV.out]), bstep hb.out hb1⟩)
      · have HV := Aside0.mk (all_next hp.out hbk.out hvb)
        rw [hvb] at HA
        clear hvb
        go_wp2_with (go_at_call 64; refine HA.out.mono ?_; rintro _ w1 ⟨rfl, hb1⟩)
        go_roundg (gk - 1)
        case measure => have := HK.out; omega
        case rel => exact ⟨k + 1, by have := HK.out; omega, by go_num, HV, ⟨bstep hb.out hb1⟩⟩
    · have HV := Aside0.mk (all_end hp.out (by omega))
      clear hk
      go_wp2
      all_goals (go_ret; exact ⟨ret_bool (by simp [vBooks, HV.out]; omega), hb.out⟩)
theorem vBooks_len {L : List Bk} (h : vBooks L = true) : L.length ≤ 60 := by
  unfold vBooks at h
  simp only [Bool.and_eq_true, decide_eq_true_eq] at h
  exact h.1
theorem ret_two {a b c d : Int} (h : a = c) (k : b = d) : Ending.returned (.tuple #[.int .i64 a, .int .i64 b]) = .returned (.tuple #[.int .i64 c, .int .i64 d]) := by rw [h, k]
theorem ret_three {a b c d e f : Int} (h : a = d) (k : b = e) (l : c = f) : Ending.returned (.tuple #[.int .i64 a, .int .i64 b, .int .i64 c]) = .returned (.tuple #[.int .i64 d, .int .i64 e, .int .i64 f]) := by rw [h, k, l]
end Go.Proofs.YtkoaangakmpggaaGreatDoor
end
section
/- Rows of books in the usual order: the program's and the reference's isSorted, l01Out. -/
namespace Go.Proofs.YtkoaangakmpggaaGreatDoor
open Go.RowKit Go.Proofs.YtkoaangakmpggaaGreatDoorW.PrintWords Go.Proofs.YtkoaangakmpggaaGreatDoorW.PrintMore
set_option linter.unusedVariables false
set_option linter.unusedSimpArgs false
set_option maxRecDepth 100000

/-- Element i is out: below the one before it. -/
def outAt (L : List Bk) (i : Nat) : Bool := match L[i]?, L[i - 1]? with
  | some x, some y => decide (cmpU x y < 0)
  | _, _ => false
theorem outAt_of {L : List Bk} {i : Nat} {x y : Bk} (h : L[i]? = some x) (h' : L[i - 1]? = some y) : outAt L i = decide (cmpU x y < 0) := by
  unfold outAt; rw [h, h']
/-- The first element from k on that is out, -1 if none is. -/
def outFrom (L : List Bk) : Nat → Nat → Int
  | _, 0 => -1
  | k, g + 1 => if outAt L k then (k : Int) else outFrom L (k + 1) g
def outOf (L : List Bk) : Int := outFrom L 1 (L.length - 1)
theorem outFrom_hit {L : List Bk} {k g : Nat} (h : outAt L k = true) (hg : 0 < g) : outFrom L k g = (k : Int) := by
  match g, hg with
  | g + 1, _ => rw [outFrom, if_pos h]
theorem outFrom_next {L : List Bk} {k g : Nat} (h : outAt L k = false) (hg : 0 < g) : outFrom L k g = outFrom L (k + 1) (g - 1) := by
  match g, hg with
  | g + 1, _ => rw [outFrom, if_neg (by simp [h])]; rfl
theorem outFrom_none (L : List Bk) (k : Nat) : outFrom L k 0 = -1 := rfl
end Go.Proofs.YtkoaangakmpggaaGreatDoor
end
section
/- Runs of rows of books: the plain laws. -/
namespace Go.Proofs.YtkoaangakmpggaaGreatDoor
open Go.RowKit Go.Proofs.YtkoaangakmpggaaGreatDoorW.PrintWords Go.Proofs.YtkoaangakmpggaaGreatDoorW.PrintMore
set_option linter.unusedVariables false
set_option linter.unusedSimpArgs false
set_option maxRecDepth 100000

def startAt (L : List Bk) (i : Nat) : Bool := decide (i = 0) || outAt L i
def runsN (L : List Bk) (k : Nat) : List Int := ((List.range k).filter (startAt L)).map Int.ofNat
def runsL (L : List Bk) : List Int := runsN L L.length
theorem runsN_yes {L : List Bk} {k : Nat} (h : startAt L k = true) : runsN L (k + 1) = runsN L k ++ [(k : Int)] := by
  unfold runsN
  rw [List.range_succ, List.filter_append, List.filter_cons_of_pos h, List.map_append]
  rfl
theorem runsN_no {L : List Bk} {k : Nat} (h : startAt L k = false) : runsN L (k + 1) = runsN L k := by
  unfold runsN
  rw [List.range_succ, List.filter_append, List.filter_cons_of_neg (by simp [h])]
  simp
theorem runsN_len (L : List Bk) (k : Nat) : (runsN L k).length ≤ k := by
  unfold runsN
  rw [List.length_map]
  exact Nat.le_trans (List.length_filter_le _ _) (by simp)
theorem runsN_mem {L : List Bk} {k : Nat} {x : Int} (h : x ∈ runsN L k) : 0 ≤ x ∧ x < (k : Int) := by
  unfold runsN at h
  obtain ⟨n, hn, rfl⟩ := List.mem_map.1 h
  have := List.mem_range.1 (List.mem_filter.1 hn).1
  simp only [Int.ofNat_eq_natCast]
  omega
theorem outFrom_filter (L : List Bk) : ∀ (g k : Nat), outFrom L k g = match (List.range' k g).filter (outAt L) with
    | [] => -1
    | x :: _ => (x : Int) := by
  intro g
  induction g with
  | zero => intro k; rfl
  | succ g ih =>
    intro k
    rw [outFrom, List.range'_succ]
    cases h : outAt L k with
    | true => rw [if_pos rfl, List.filter_cons_of_pos h]
    | false => rw [if_neg (by decide), List.filter_cons_of_neg (by simp [h])]; exact ih (k + 1)
theorem runsL_cons {L : List Bk} (h : 0 < L.length) : runsL L = 0 :: ((List.range' 1 (L.length - 1)).filter (outAt L)).map Int.ofNat := by
  unfold runsL runsN
  obtain ⟨n, hn⟩ : ∃ n, L.length = n + 1 := ⟨L.length - 1, by omega⟩
  rw [hn, List.range_eq_range', List.range'_succ, List.filter_cons_of_pos (by rfl), List.map_cons]
  simp only [Nat.zero_add, Nat.add_sub_cancel]
  congr 2
  apply List.filter_congr
  intro x hx
  have := (List.mem_range'_1.1 hx).1
  unfold startAt
  rw [decide_eq_false (by omega), Bool.false_or]
theorem runsL_nil {L : List Bk} (h : L.length = 0) : runsL L = [] := by
  unfold runsL runsN
  rw [h]; rfl
theorem runs_few {L : List Bk} : (runsL L).length < 2 ↔ outOf L < 0 := by
  rcases Nat.eq_zero_or_pos L.length with h | h
  · rw [runsL_nil h]
    unfold outOf
    rw [h]
    simp [outFrom]
  · rw [runsL_cons h]
    unfold outOf
    rw [outFrom_filter]
    cases (List.range' 1 (L.length - 1)).filter (outAt L) with
    | nil => simp
    | cons x r => simp; omega
theorem runs_second {L : List Bk} (h : ¬ outOf L < 0) : (runsL L)[1]? = some (outOf L) := by
  have h2 : ¬ (runsL L).length < 2 := fun e => h (runs_few.1 e)
  rcases Nat.eq_zero_or_pos L.length with h0 | h0
  · rw [runsL_nil h0] at h2; simp at h2
  · rw [runsL_cons h0] at h2 ⊢
    unfold outOf
    rw [outFrom_filter]
    revert h2
    cases (List.range' 1 (L.length - 1)).filter (outAt L) with
    | nil => simp
    | cons x r => simp
/-- How many of M come behind b. -/
def lowIn (b : Bk) (M : List Bk) : Nat := (M.filter (fun a => decide (cmpU b a < 0))).length
theorem lowIn_yes {b a : Bk} {M : List Bk} {k : Nat} (h : M[k]? = some a) (hc : cmpU b a < 0) : lowIn b (M.take (k + 1)) = lowIn b (M.take k) + 1 := by
  unfold lowIn
  rw [take_snoc h, List.filter_append, List.length_append, List.filter_cons_of_pos (by simpa using hc)]
  rfl
theorem lowIn_no {b a : Bk} {M : List Bk} {k : Nat} (h : M[k]? = some a) (hc : ¬ cmpU b a < 0) : lowIn b (M.take (k + 1)) = lowIn b (M.take k) := by
  unfold lowIn
  rw [take_snoc h, List.filter_append, List.length_append, List.filter_cons_of_neg (by simpa using hc)]
  rfl
theorem lowIn_le (b : Bk) (M : List Bk) : lowIn b M ≤ M.length := List.length_filter_le _ _
/-- The pairs out of order among the first k. -/
def pairsN (L : List Bk) : Nat → Nat
  | 0 => 0
  | k + 1 => pairsN L k + (match L[k]? with
    | some b => lowIn b (L.take k)
    | none => 0)
theorem pairsN_next {L : List Bk} {k : Nat} {b : Bk} (h : L[k]? = some b) : pairsN L (k + 1) = pairsN L k + lowIn b (L.take k) := by rw [pairsN, h]
theorem pairsN_le (L : List Bk) (k : Nat) : pairsN L k ≤ L.length * k := by
  induction k with
  | zero => exact Nat.zero_le _
  | succ k ih =>
    rw [pairsN, Nat.mul_succ]
    have : (match L[k]? with
      | some b => lowIn b (L.take k)
      | none => 0) ≤ L.length := by
      cases L[k]? with
      | none => exact Nat.zero_le _
      | some b => exact Nat.le_trans (lowIn_le _ _) (List.length_take_le' _ _)
    omega
def pairsL (L : List Bk) : Int := (pairsN L L.length : Nat)
/-- The longest of the gaps among the first k + 1 numbers. -/
def gapN (own : List Int) : Nat → Int × Int
  | 0 => (0, 0)
  | k + 1 => match own[k]?, own[k + 1]? with
    | some a, some b => if (gapN own k).2 < b - a then (a, b - a) else gapN own k
    | _, _ => gapN own k
theorem gapN_next {own : List Int} {k : Nat} {a b : Int} (h : own[k]? = some a) (h' : own[k + 1]? = some b) : gapN own (k + 1) = if (gapN own k).2 < b - a then (a, b - a) else gapN own k := by
  rw [gapN, h, h']
def longest (L : List Bk) : Int × Int := gapN (runsL L ++ [(L.length : Int)]) (runsL L).length
theorem gapN_bound {own : List Int} {m : Int} (h : ∀ x ∈ own, 0 ≤ x ∧ x ≤ m) (hm : 0 ≤ m) (k : Nat) : 0 ≤ (gapN own k).1 ∧ (gapN own k).1 ≤ m ∧ 0 ≤ (gapN own k).2 ∧ (gapN own k).2 ≤ m := by
  induction k with
  | zero => simp [gapN, hm]
  | succ k ih =>
    rw [gapN]
    cases h1 : own[k]? with
    | none => exact ih
    | some a =>
      cases h2 : own[k + 1]? with
      | none => exact ih
      | some b =>
        simp only
        have ha := h a (List.mem_of_getElem? h1)
        have hb := h b (List.mem_of_getElem? h2)
        split
        · simp only; omega
        · exact ih
end Go.Proofs.YtkoaangakmpggaaGreatDoor
end
section
/- Rows of books in the usual order: the program's isSorted. -/
namespace Go.Proofs.YtkoaangakmpggaaGreatDoor
open Go.RowKit Go.Proofs.YtkoaangakmpggaaGreatDoorW.PrintWords Go.Proofs.YtkoaangakmpggaaGreatDoorW.PrintMore
set_option linter.unusedVariables false
set_option linter.unusedSimpArgs false
set_option maxRecDepth 100000

theorem outFrom_neg (L : List Bk) : ∀ (g k : Nat), outFrom L k g < 0 ↔ ∀ j, k ≤ j → j < k + g → outAt L j = false := by
  intro g
  induction g with
  | zero => intro k; simp only [outFrom]; exact ⟨fun _ j h1 h2 => absurd h2 (by omega), fun _ => by decide⟩
  | succ g ih =>
    intro k
    rw [outFrom]
    cases h : outAt L k with
    | true =>
      rw [if_pos rfl]
      refine ⟨fun h' => absurd h' (by omega), fun h' => ?_⟩
      rw [h' k (by omega) (by omega)] at h
      cases h
    | false =>
      rw [if_neg (by decide), ih (k + 1)]
      refine ⟨fun h' j h1 h2 => ?_, fun h' j h1 h2 => h' j (by omega) (by omega)⟩
      by_cases e : j = k
      · rw [e]; exact h
      · exact h' j (by omega) (by omega)
def isS (L : List Bk) : Bool := decide (outOf L < 0)
theorem isS_iff (L : List Bk) : isS L = true ↔ ∀ j, 1 ≤ j → j < L.length → outAt L j = false := by
  unfold isS outOf
  rw [decide_eq_true_eq, outFrom_neg]
  exact ⟨fun h j h1 h2 => h j h1 (by omega), fun h j h1 h2 => h j h1 (by omega)⟩
set_option maxHeartbeats 4000000 in
theorem isSortedFunc_c (A : Option Addr) (c : Nat) (L : List Bk) (f : FuncId) (cap : Array Value) (w : World) (hL : kBk.C w A L.length L) (hfn : Fun Tryz.prog f)
    (hf : ∀ W x y, Calls Tryz.prog f (#[x.val, y.val] ++ cap) W (Ret W (.int .i64 (cmpU x y)))) :
    Calls Tryz.prog 78 #[.slice A L.length c, .func (.func f) #[] cap] w (Ret w (.bool (isS L))) := by
  have hm := Kd.C_max hL
  have HL := Aside0.mk hL
  have HF := Aside0.mk hf
  have hcf := hfn.run
  clear hL hf hfn
  simp only [Bk.val] at HF
  go_enter Tryz.func78, Tryz.ntmps78
  go_wp2
  have iw : IntKind.i64.wrap ((L.length : Int) - 1) = (L.length : Int) - 1 := by simp only [IntKind.wrap, IntKind.bits, IntKind.signed, Bool.true_and, decide_eq_true_eq, ge_iff_le]; split <;> omega
  go_loopg [5] L.length (fun gk v wr => ∃ v0 : Int, v = .int .i64 v0 ∧ Aside0 (v0 = (gk : Int) - 1 ∧ gk ≤ L.length ∧ ∀ j, gk ≤ j → j < L.length → outAt L j = false) ∧ Aside0 (Below w.heap.size w wr))
  case atStart => exact ⟨(L.length : Int) - 1, by first | rw [iw] | rfl, ⟨rfl, by omega, fun j h1 h2 => absurd h2 (by omega)⟩, ⟨Below.refl _ _⟩⟩
  case round =>
    clear iw
    obtain ⟨v0, rfl, hp, hb⟩ := hrel
    by_cases hlt : 2 ≤ gk
    · obtain ⟨k, hgk⟩ : ∃ k, gk = k + 2 := ⟨gk - 2, by omega⟩
      have hv : v0 = (k : Int) + 1 := by have := hp.out.1; omega
      have hle : k + 1 < L.length := by have := hp.out.2.1; omega
      have HG := Aside0.mk hgk
      clear hgk
      subst hv
      obtain ⟨ad, b, rfl, hbk, x0, x1, x2, x3, x4, x5, x6, x7⟩ := at_bk (Kd.C_below HL.out hb.out) (k + 1) hle
      obtain ⟨ad', b', e', hbk', y0, y1, y2, y3, y4, y5, y6, y7⟩ := at_bk (Kd.C_below HL.out hb.out) k (by omega)
      injection e' with e'
      subst e'
      have HA := Aside0.mk (outAt_of hbk.out hbk'.out)
      have HFF := Aside0.mk (fun W => HF.out W b b')
      have i0 : (0 : Int) ≤ (k : Int) := by omega
      have i1 : (k : Int) + 1 < (L.length : Int) := by omega
      have i2 : (k : Int) < (L.length : Int) := by omega
      have i3 : ((k : Int) + 1).toNat = k + 1 := by omega
      have i4 : (0 : Int) ≤ (k : Int) + 1 := by omega
      have i5 : (0 : Int) < (k : Int) + 1 := by omega
      have iw : IntKind.i64.wrap (k : Int) = (k : Int) := by simp only [IntKind.wrap, IntKind.bits, IntKind.signed, Bool.true_and, decide_eq_true_eq, ge_iff_le]; split <;> omega
      go_wp2_with fail
      go_still_tail 10, (by kernel_rfl)
      go_wp2_with fail
      refine (HFF.out _).mono ?_; rintro _ w1 ⟨rfl, hb1⟩
      have HB1 := Aside0.mk (bstep (bdrew hb.out) hb1)
      clear hb1 HFF x0 x1 x2 x3 x4 x5 x6 x7 y0 y1 y2 y3 y4 y5 y6 y7
      by_cases ho : cmpU b b' < 0
      · have HR := Aside0.mk (show isS L = false from Bool.eq_false_iff.2 fun h => by
          have := (isS_iff L).1 h (k + 1) (by omega) hle
          rw [HA.out] at this; simp at this; omega)
        go_wp2
        go_ret
        exact ⟨ret_bool HR.out.symm, HB1.out⟩
      · have HR := Aside0.mk (show ∀ j, k + 1 ≤ j → j < L.length → outAt L j = false from fun j h1 h2 => by
          by_cases e : j = k + 1
          · rw [e, HA.out]; simpa using ho
          · exact hp.out.2.2 j (by have := HG.out; omega) h2)
        go_wp2
        go_roundg (gk - 1)
        case measure => have := HG.out; omega
        case rel => exact ⟨(k : Int), by go_num, ⟨by have := HG.out; omega, by have := HG.out; omega, fun j h1 h2 => HR.out j (by have := HG.out; omega) h2⟩, HB1⟩
    · have HR := Aside0.mk (show isS L = true from (isS_iff L).2 fun j h1 h2 => hp.out.2.2 j (by omega) h2)
      have i3 : v0 ≤ 0 := by have := hp.out.1; omega
      go_wp2
      go_ret
      exact ⟨ret_bool HR.out.symm, hb.out⟩
theorem isSorted_c (A : Option Addr) (c : Nat) (L : List Bk) (w : World) (hL : kBk.C w A L.length L) : Calls Tryz.prog 45 #[.slice A L.length c] w (Ret w (.bool (isS L))) := by
  have HX := Aside0.mk (isSortedFunc_c A c L 43 #[] w hL ⟨_, Tryz.func43, rfl, rfl⟩ (fun W x y => compare_c x y W))
  clear hL
  go_enter Tryz.func45, Tryz.ntmps45
  go_wp2_with fail
  refine HX.out.mono ?_; rintro _ w1 ⟨rfl, hb1⟩
  go_wp2_with fail
  go_ret
  exact ⟨rfl, hb1⟩
def eV (L : List Bk) : Int := if vBooks L then 0 else 1
theorem eV_t {L : List Bk} (h : vBooks L = true) : eV L = 0 := by unfold eV; rw [if_pos h]
theorem eV_f {L : List Bk} (h : vBooks L = false) : eV L = 1 := by unfold eV; rw [h]; rfl
theorem IsSorted_c (A : Option Addr) (c : Nat) (L : List Bk) (w : World) (hL : kBk.C w A L.length L) : Calls Tryz.prog 13 #[.slice A L.length c] w (Ret w (.tuple #[.bool (vBooks L && isS L), .int .i64 (eV L)])) := by
  have HL := Aside0.mk hL
  have HV := Aside0.mk (ValidBooks_c A c L w hL)
  clear hL
  cases h : vBooks L
  · rw [h] at HV
    have HE := Aside0.mk (eV_f h)
    clear h
    go_enter Tryz.func13, Tryz.ntmps13
    go_wp2_with fail
    refine HV.out.mono ?_; rintro _ w1 ⟨rfl, hb1⟩
    go_wp2_with fail
    exact bodyPost_ret (v := .tuple #[.bool false, .int .i64 1]) (by simp [results, Tryz.results13, go_sem]) rfl ⟨by rw [HE.out]; rfl, hb1⟩
  · rw [h] at HV
    have HE := Aside0.mk (eV_t h)
    clear h
    go_enter Tryz.func13, Tryz.ntmps13
    go_wp2_with fail
    refine HV.out.mono ?_; rintro _ w1 ⟨rfl, hb1⟩
    go_wp2_with fail
    refine (isSorted_c A c L _ (Kd.C_below HL.out hb1)).mono ?_; rintro _ w2 ⟨rfl, hb2⟩
    go_wp2_with fail
    exact bodyPost_ret (v := .tuple #[.bool (isS L), .int .i64 0]) (by simp [results, Tryz.results13, go_sem]) rfl ⟨by rw [HE.out, Bool.true_and], bstep hb1 hb2⟩
end Go.Proofs.YtkoaangakmpggaaGreatDoor
end
section
/- Runs of rows of books: the program's and the reference's. -/
namespace Go.Proofs.YtkoaangakmpggaaGreatDoor
open Go.RowKit Go.Proofs.YtkoaangakmpggaaGreatDoorW.PrintWords Go.Proofs.YtkoaangakmpggaaGreatDoorW.PrintMore
set_option linter.unusedVariables false
set_option linter.unusedSimpArgs false
set_option maxRecDepth 100000

set_option maxHeartbeats 4000000 in
theorem runs_c (A : Option Addr) (c : Nat) (L : List Bk) (w : World) (hL : kBk.C w A L.length L) (hn : L.length ≤ 60) : Calls Tryz.prog 54 #[.slice A L.length c] w (RetQ w (NewI w (runsL L))) := by
  have hm := Kd.C_max hL
  have HL := Aside0.mk hL
  have HC := Aside0.mk (fun x y W => compare_c x y W)
  simp only [Bk.val] at HC
  clear hL
  go_enter Tryz.func54, Tryz.ntmps54
  go_wp2
  go_loopg [3, 8] L.length (fun gk v v8 wr => ∃ k : Nat, k + gk = L.length ∧ v8 = .int .i64 k ∧ Aside0 ((Kd.int .i64).R 2 wr w.heap.size (fun _ => True) v (runsN L k)) ∧ Aside0 (Below w.heap.size w wr))
  case atStart => exact ⟨0, by omega, rfl, ⟨Kd.R_nil _ _ _ _ _⟩, ⟨Below.refl _ _⟩⟩
  case round =>
    obtain ⟨k, hk, rfl, HR, HB⟩ := hrel
    have HK := Aside0.mk hk
    by_cases hlt : k < L.length
    · obtain ⟨ad, b, rfl, hbk, x0, x1, x2, x3, x4, x5, x6, x7⟩ := at_bk (Kd.C_below HL.out HB.out) k hlt
      clear hk
      by_cases hk0 : k = 0
      · have hq : ((k : Int) == 0) = true := by simp [hk0]
        have HS := Aside0.mk (runsN_yes (show startAt L k = true by simp [startAt, hk0]))
        have HL60 := Aside0.mk (runsN_len L k)
        clear hk0
        go_wp2_with fail
        have HR1 := Aside0.mk (Kd.R_alloc HR.out (.cells #[.int .i16 b.c, .int .u8 b.m0, .int .u8 b.m1, .int .u8 b.m2, .int .i16 b.v, .int .i16 b.wd, .int .i16 b.h, .int .i16 b.wt] 44))
        have HB1 := Aside0.mk (balloc HB.out (.cells #[.int .i16 b.c, .int .u8 b.m0, .int .u8 b.m1, .int .u8 b.m2, .int .i16 b.v, .int .i16 b.wd, .int .i16 b.h, .int .i16 b.wt] 44))
        clear HR HB x0 x1 x2 x3 x4 x5 x6 x7
        generalize World.alloc wr _ = W1 at HR1 HB1 ⊢
        go_quiet (fail)
        go_wp2_with (at_builtin; refine i64_append (w := w) rfl (.tmp 25) (.tmp 27) rfl _ (runsN L k) (k : Int) rfl rfl (Kd.R_drewN HR1.out _) (bdrewN HB1.out _) (by have := HL60.out; omega) ?_; intro v1 w1 hR1 hB1 _; have HR2 := Aside0.mk hR1; have HB2 := Aside0.mk hB1; clear hR1 hB1)
        go_roundg (gk - 1)
        case measure => have := HK.out; omega
        case rel => exact ⟨k + 1, by have := HK.out; omega, by go_num, ⟨by rw [HS.out]; exact HR2.out⟩, HB2⟩
      · have i0 : (0 : Int) ≤ (k : Int) - 1 := by omega
        have i1 : (k : Int) < (L.length : Int) := by omega
        have i2 : (k : Int) - 1 < (L.length : Int) := by omega
        have i3 : ((k : Int) - 1).toNat = k - 1 := by omega
        have i4 : (1 : Int) ≤ (k : Int) := by omega
        have i5 : (k : Int) < (L.length : Int) + 1 := by omega
        have i6 : 1 ≤ k := by omega
        obtain ⟨ad', b', e', hbk', hy⟩ := at_bk' (Kd.C_below HL.out HB.out) (k - 1) (by omega)
        injection e' with e'
        subst e'
        have HA := Aside0.mk (outAt_of hbk.out hbk'.out)
        have HK0 := Aside0.mk hk0
        have hq : ((k : Int) == 0) = false := by simp; omega
        have iw : IntKind.i64.wrap ((k : Int) - 1) = (k : Int) - 1 := by simp only [IntKind.wrap, IntKind.bits, IntKind.signed, Bool.true_and, decide_eq_true_eq, ge_iff_le]; split <;> omega
        clear hk0
        go_wp2_with fail
        have HR1 := Aside0.mk (Kd.R_alloc HR.out (.cells #[.int .i16 b.c, .int .u8 b.m0, .int .u8 b.m1, .int .u8 b.m2, .int .i16 b.v, .int .i16 b.wd, .int .i16 b.h, .int .i16 b.wt] 44))
        have HB1 := Aside0.mk (balloc HB.out (.cells #[.int .i16 b.c, .int .u8 b.m0, .int .u8 b.m1, .int .u8 b.m2, .int .i16 b.v, .int .i16 b.wd, .int .i16 b.h, .int .i16 b.wt] 44))
        obtain ⟨y0, y1, y2, y3, y4, y5, y6, y7⟩ := hy.below (balloc (Below.refl _ _) (.cells #[.int .i16 b.c, .int .u8 b.m0, .int .u8 b.m1, .int .u8 b.m2, .int .i16 b.v, .int .i16 b.wd, .int .i16 b.h, .int .i16 b.wt] 44))
        obtain ⟨z0, z1, z2, z3, z4, z5, z6, z7⟩ := BkAt.box wr b 44
        clear HR HB hy x0 x1 x2 x3 x4 x5 x6 x7
        generalize World.alloc wr _ = W1 at HR1 HB1 y0 y1 y2 y3 y4 y5 y6 y7 z0 z1 z2 z3 z4 z5 z6 z7 ⊢
        go_still_tail 9, (by kernel_rfl)
        go_wp2_with fail

        refine (HC.out _ _ _).mono ?_; rintro _ w1 ⟨rfl, hb1⟩
        have HR2 := Aside0.mk (Kd.R_below (Kd.R_drew HR1.out) hb1)
        have HB2 := Aside0.mk (bstep (bdrew HB1.out) hb1)
        clear hb1 y0 y1 y2 y3 y4 y5 y6 y7 z0 z1 z2 z3 z4 z5 z6 z7 HR1 HB1
        by_cases hlow : cmpU b b' < 0
        · have HS := Aside0.mk (runsN_yes (show startAt L k = true by unfold startAt; rw [HA.out]; simp [hlow]))
          have HL60 := Aside0.mk (runsN_len L k)
          go_wp2_with (at_builtin; refine i64_append (w := w) rfl (.tmp 25) (.tmp 27) rfl _ (runsN L k) (k : Int) rfl rfl HR2.out HB2.out (by have := HL60.out; omega) ?_; intro v1 w2 hR1 hB1 _; have HR3 := Aside0.mk hR1; have HB3 := Aside0.mk hB1; clear hR1 hB1)
          go_roundg (gk - 1)
          case measure => have := HK.out; omega
          case rel => exact ⟨k + 1, by have := HK.out; omega, by go_num, ⟨by rw [HS.out]; exact HR3.out⟩, HB3⟩
        · have HS := Aside0.mk (runsN_no (show startAt L k = false by unfold startAt; rw [HA.out]; simp [hlow]; exact HK0.out))
          go_wp2
          go_roundg (gk - 1)
          case measure => have := HK.out; omega
          case rel => exact ⟨k + 1, by have := HK.out; omega, by go_num, ⟨by rw [HS.out]; exact HR2.out⟩, HB2⟩
    · have HE := Aside0.mk (show runsN L k = runsL L by rw [show k = L.length by omega]; rfl)
      clear hk
      go_wp2
      go_ret
      exact ⟨_, rfl, HB.out, by have := HR.out; rw [HE.out] at this; exact this⟩
set_option maxHeartbeats 4000000 in
theorem l01Runs_c (A : Option Addr) (c : Nat) (L : List Bk) (w : World) (hL : kBk.C w A L.length L) (hok : ∀ b ∈ L, b.ok) (hn : L.length ≤ 60) : Calls Tryz.prog 55 #[.slice A L.length c] w (RetQ w (NewI w (runsL L))) := by
  have hm := Kd.C_max hL
  have HL := Aside0.mk hL
  have HO := Aside0.mk hok
  clear hL hok
  go_enter Tryz.func55, Tryz.ntmps55
  go_wp2
  go_loopg [3, 4] L.length (fun gk v v8 wr => ∃ k : Nat, k + gk = L.length ∧ v8 = .int .i64 k ∧ Aside0 ((Kd.int .i64).R 2 wr w.heap.size (fun _ => True) v (runsN L k)) ∧ Aside0 (Below w.heap.size w wr))
  case atStart => exact ⟨0, by omega, rfl, ⟨R_zero _ _ _ _ _ (Nat.le_refl _) trivial⟩, ⟨balloc (Below.refl _ _) _⟩⟩
  case round =>
    obtain ⟨k, hk, rfl, HR, HB⟩ := hrel
    have HK := Aside0.mk hk
    by_cases hlt : k < L.length
    · obtain ⟨ad, b, rfl, hbk, hx⟩ := at_bk' (Kd.C_below HL.out HB.out) k hlt
      clear hk
      have i7 : (0 : Int) ≤ (k : Int) := by omega
      have i1 : (k : Int) < (L.length : Int) := by omega
      by_cases hk0 : k = 0
      · have hq : ((k : Int) == 0) = true := by simp [hk0]
        have HS := Aside0.mk (runsN_yes (show startAt L k = true by simp [startAt, hk0]))
        have HL60 := Aside0.mk (runsN_len L k)
        clear hk0 hx
        go_wp2_with fail
        go_quiet (fail)
        go_wp2_with (at_builtin; refine i64_append (w := w) rfl (.tmp 25) (.tmp 27) rfl _ (runsN L k) (k : Int) rfl rfl (Kd.R_drewN HR.out _) (bdrewN HB.out _) (by have := HL60.out; omega) ?_; intro v1 w1 hR1 hB1 _; have HR2 := Aside0.mk hR1; have HB2 := Aside0.mk hB1; clear hR1 hB1)
        go_roundg (gk - 1)
        case measure => have := HK.out; omega
        case rel => exact ⟨k + 1, by have := HK.out; omega, by go_num, ⟨by rw [HS.out]; exact HR2.out⟩, HB2⟩
      · have i0 : (0 : Int) ≤ (k : Int) - 1 := by omega
        have i2 : (k : Int) - 1 < (L.length : Int) := by omega
        have i3 : ((k : Int) - 1).toNat = k - 1 := by omega
        have i4 : (1 : Int) ≤ (k : Int) := by omega
        have i5 : (k : Int) < (L.length : Int) + 1 := by omega
        have i6 : 1 ≤ k := by omega
        obtain ⟨ad', b', e', hbk', hy⟩ := at_bk' (Kd.C_below HL.out HB.out) (k - 1) (by omega)
        injection e' with e'
        subst e'
        have HX := Aside0.mk (l01Usual_c _ _ b b' (HO.out b (mem_of hbk.out)) (HO.out b' (mem_of hbk'.out)) _ (hx.below (bdrew (Below.refl _ _))) (hy.below (bdrew (Below.refl _ _))))
        have HA := Aside0.mk (outAt_of hbk.out hbk'.out)
        have HK0 := Aside0.mk hk0
        have hq : ((k : Int) == 0) = false := by simp; omega
        have iw : IntKind.i64.wrap ((k : Int) - 1) = (k : Int) - 1 := by simp only [IntKind.wrap, IntKind.bits, IntKind.signed, Bool.true_and, decide_eq_true_eq, ge_iff_le]; split <;> omega
        clear hk0 hx hy
        go_wp2_with fail
        go_still_tail 10, (by kernel_rfl)
        go_wp2_with fail
        refine HX.out.mono ?_; rintro _ w1 ⟨rfl, hb1⟩
        have HR2 := Aside0.mk (Kd.R_below (Kd.R_drew HR.out) hb1)
        have HB2 := Aside0.mk (bstep (bdrew HB.out) hb1)
        clear hb1 HR HB HX
        by_cases hlow : cmpU b b' < 0
        · have HS := Aside0.mk (runsN_yes (show startAt L k = true by unfold startAt; rw [HA.out]; simp [hlow]))
          have HL60 := Aside0.mk (runsN_len L k)
          go_wp2_with (at_builtin; refine i64_append (w := w) rfl (.tmp 25) (.tmp 27) rfl _ (runsN L k) (k : Int) rfl rfl HR2.out HB2.out (by have := HL60.out; omega) ?_; intro v1 w2 hR1 hB1 _; have HR3 := Aside0.mk hR1; have HB3 := Aside0.mk hB1; clear hR1 hB1)
          go_roundg (gk - 1)
          case measure => have := HK.out; omega
          case rel => exact ⟨k + 1, by have := HK.out; omega, by go_num, ⟨by rw [HS.out]; exact HR3.out⟩, HB3⟩
        · have HS := Aside0.mk (runsN_no (show startAt L k = false by unfold startAt; rw [HA.out]; simp [hlow]; exact HK0.out))
          go_wp2
          go_roundg (gk - 1)
          case measure => have := HK.out; omega
          case rel => exact ⟨k + 1, by have := HK.out; omega, by go_num, ⟨by rw [HS.out]; exact HR2.out⟩, HB2⟩
    · have HE := Aside0.mk (show runsN L k = runsL L by rw [show k = L.length by omega]; rfl)
      clear hk
      go_wp2
      go_ret
      exact ⟨_, rfl, HB.out, by have := HR.out; rw [HE.out] at this; exact this⟩
end Go.Proofs.YtkoaangakmpggaaGreatDoor
end
section
/- FirstOut, RunsOf: the program's and the reference's. -/
namespace Go.Proofs.YtkoaangakmpggaaGreatDoor
open Go.RowKit Go.Proofs.YtkoaangakmpggaaGreatDoorW.PrintWords Go.Proofs.YtkoaangakmpggaaGreatDoorW.PrintMore
set_option linter.unusedVariables false
set_option linter.unusedSimpArgs false
set_option maxRecDepth 100000

def firstV (L : List Bk) : Int := if vBooks L = true then (if outOf L < 0 then 0 else outOf L) else 0
def firstE (L : List Bk) : Int := if vBooks L = true then (if outOf L < 0 then 6 else 0) else 1
theorem FirstOut_c (A : Option Addr) (c : Nat) (L : List Bk) (w : World) (hL : kBk.C w A L.length L) : Calls Tryz.prog 24 #[.slice A L.length c] w (Ret w (.tuple #[.int .i64 (firstV L), .int .i64 (firstE L)])) := by
  have HL := Aside0.mk hL
  have HV := Aside0.mk (ValidBooks_c A c L w hL)
  clear hL
  cases h : vBooks L
  · rw [h] at HV
    have HE := Aside0.mk (show firstV L = 0 ∧ firstE L = 1 by unfold firstV firstE; rw [h]; exact ⟨rfl, rfl⟩)
    clear h
    go_enter Tryz.func24, Tryz.ntmps24
    go_wp2_with fail
    refine HV.out.mono ?_; rintro _ w1 ⟨rfl, hb1⟩
    go_wp2_with fail
    go_ret2
    exact ⟨ret_two HE.out.1.symm HE.out.2.symm, hb1⟩
  · rw [h] at HV
    have HN := Aside0.mk (vBooks_len h)
    have HE := Aside0.mk (show firstV L = (if outOf L < 0 then 0 else outOf L) ∧ firstE L = (if outOf L < 0 then 6 else 0) by unfold firstV firstE; rw [h]; exact ⟨rfl, rfl⟩)
    clear h
    by_cases hf : outOf L < 0
    · have HR := Aside0.mk (runs_few.2 hf)
      have HF := Aside0.mk hf
      clear hf
      go_enter Tryz.func24, Tryz.ntmps24
      go_wp2_with fail
      refine HV.out.mono ?_; rintro _ w1 ⟨rfl, hb1⟩
      have HB1 := Aside0.mk hb1
      go_wp2_with fail
      refine (runs_c A c L w1 (Kd.C_below HL.out hb1) HN.out).mono ?_; rintro _ w2 ⟨v, rfl, hb2, hv⟩
      obtain ⟨X, d, rfl, ld, CX⟩ := hv.open
      have HB2 := Aside0.mk (bstep HB1.out hb2)
      have i1 : ((runsL L).length : Int) < 2 := by have := HR.out; omega
      clear hb1 hb2 hv ld
      go_wp2_with fail
      go_ret2
      exact ⟨ret_two (by rw [HE.out.1, if_pos HF.out]) (by rw [HE.out.2, if_pos HF.out]), HB2.out⟩
    · have HR := Aside0.mk (runs_second hf)
      have HF := Aside0.mk hf
      have HR2 := Aside0.mk (show ¬ (runsL L).length < 2 from fun h => hf (runs_few.1 h))
      clear hf
      go_enter Tryz.func24, Tryz.ntmps24
      go_wp2_with fail
      refine HV.out.mono ?_; rintro _ w1 ⟨rfl, hb1⟩
      have HB1 := Aside0.mk hb1
      go_wp2_with fail
      refine (runs_c A c L w1 (Kd.C_below HL.out hb1) HN.out).mono ?_; rintro _ w2 ⟨v, rfl, hb2, hv⟩
      obtain ⟨X, d, rfl, ld, CX⟩ := hv.open
      have HB2 := Aside0.mk (bstep HB1.out hb2)
      obtain ⟨ad, x, rfl, hx, hc⟩ := at_int' CX.out 1 (by have := HR2.out; omega)
      have HX := Aside0.mk (show x = outOf L by have h1 := hx.out; rw [HR.out] at h1; injection h1 with h1; exact h1.symm)
      have i1 : ¬ ((runsL L).length : Int) < 2 := by have := HR2.out; omega
      have i2 : (1 : Int) < ((runsL L).length : Int) := by omega
      have i3 : 1 < (runsL L).length := by omega
      have hc2 : w2.cell? ⟨ad.block, ad.off + 1, none⟩ = some (.int .i64 x) := by simpa [Addr.add] using hc
      clear hb1 hb2 hv ld hx hc
      go_wp2_with fail
      go_ret2
      exact ⟨ret_two (by rw [HE.out.1, if_neg (by have := HF.out; omega)]; exact HX.out) (by rw [HE.out.2, if_neg (by have := HF.out; omega)]), HB2.out⟩
def runsV (L : List Bk) : List Int := if vBooks L = true then runsL L else []
theorem runsV_len (L : List Bk) : (runsV L).length ≤ 2097152 := by
  unfold runsV
  split
  · rename_i h
    have := runsN_len L L.length
    have := vBooks_len h
    unfold runsL
    omega
  · simp
theorem RunsOf_c (A : Option Addr) (c : Nat) (L : List Bk) (w : World) (hL : kBk.C w A L.length L) : Calls Tryz.prog 22 #[.slice A L.length c] w (RetQ w (TupI w (runsV L) (eV L))) := by
  have HL := Aside0.mk hL
  have HV := Aside0.mk (ValidBooks_c A c L w hL)
  clear hL
  cases h : vBooks L
  · rw [h] at HV
    have HE := Aside0.mk (show runsV L = [] ∧ eV L = 1 by unfold runsV eV; rw [h]; exact ⟨rfl, rfl⟩)
    clear h
    go_enter Tryz.func22, Tryz.ntmps22
    go_wp2_with fail
    refine HV.out.mono ?_; rintro _ w1 ⟨rfl, hb1⟩
    go_wp2_with fail
    go_ret2
    rw [HE.out.1, HE.out.2]
    exact ⟨_, rfl, hb1, _, rfl, Kd.R_nil _ _ _ _ _⟩
  · rw [h] at HV
    have HN := Aside0.mk (vBooks_len h)
    have HE := Aside0.mk (show runsV L = runsL L ∧ eV L = 0 by unfold runsV eV; rw [h]; exact ⟨rfl, rfl⟩)
    clear h
    go_enter Tryz.func22, Tryz.ntmps22
    go_wp2_with fail
    refine HV.out.mono ?_; rintro _ w1 ⟨rfl, hb1⟩
    go_wp2_with fail
    refine (runs_c A c L w1 (Kd.C_below HL.out hb1) HN.out).mono ?_; rintro _ w2 ⟨v, rfl, hb2, hv⟩
    have HB2 := Aside0.mk (bstep hb1 hb2)
    have HV2 := Aside0.mk (show NewI w (runsL L) v w2 from Kd.R_lower hv hb1.size)
    clear hb1 hb2 hv
    go_wp2_with fail
    go_ret2
    rw [HE.out.1, HE.out.2]
    exact ⟨_, rfl, HB2.out, _, rfl, HV2.out⟩
theorem specRunsOf_c (A : Option Addr) (c : Nat) (L : List Bk) (hok : OkL L) (w : World) (hL : kBk.C w A L.length L) : Calls Tryz.prog 23 #[.slice A L.length c] w (RetQ w (TupI w (runsV L) (eV L))) := by
  have HL := Aside0.mk hL
  have HO := Aside0.mk hok
  have HV := Aside0.mk (l01Ok_c A c L hok w hL)
  clear hL hok
  cases h : vBooks L
  · rw [h] at HV
    have HE := Aside0.mk (show runsV L = [] ∧ eV L = 1 by unfold runsV eV; rw [h]; exact ⟨rfl, rfl⟩)
    clear h
    go_enter Tryz.func23, Tryz.ntmps23
    go_wp2_with fail
    refine HV.out.mono ?_; rintro _ w1 ⟨rfl, hb1⟩
    have HZ := Aside0.mk (R_zero (Kd.int .i64) 2 w1 w.heap.size (fun _ => True) hb1.size trivial)
    have HB2 := Aside0.mk (balloc hb1 (.cells #[] 2))
    clear hb1
    go_wp2_with fail
    go_ret2
    rw [HE.out.1, HE.out.2]
    exact ⟨_, rfl, HB2.out, _, rfl, HZ.out⟩
  · rw [h] at HV
    have HN := Aside0.mk (vBooks_len h)
    have HE := Aside0.mk (show runsV L = runsL L ∧ eV L = 0 by unfold runsV eV; rw [h]; exact ⟨rfl, rfl⟩)
    clear h
    go_enter Tryz.func23, Tryz.ntmps23
    go_wp2_with fail
    refine HV.out.mono ?_; rintro _ w1 ⟨rfl, hb1⟩
    go_wp2_with fail
    refine (l01Runs_c A c L w1 (Kd.C_below HL.out hb1) HO.out HN.out).mono ?_; rintro _ w2 ⟨v, rfl, hb2, hv⟩
    have HB2 := Aside0.mk (bstep hb1 hb2)
    have HV2 := Aside0.mk (show NewI w (runsL L) v w2 from Kd.R_lower hv hb1.size)
    clear hb1 hb2 hv
    go_wp2_with fail
    go_ret2
    rw [HE.out.1, HE.out.2]
    exact ⟨_, rfl, HB2.out, _, rfl, HV2.out⟩
end Go.Proofs.YtkoaangakmpggaaGreatDoor
end
section
/- Comparing two books by an order: the program's CompareBy and the reference's. -/
namespace Go.Proofs.YtkoaangakmpggaaGreatDoor
open Go.RowKit Go.Proofs.YtkoaangakmpggaaGreatDoorW.PrintWords Go.Proofs.YtkoaangakmpggaaGreatDoorW.PrintMore
set_option linter.unusedVariables false
set_option linter.unusedSimpArgs false
set_option maxRecDepth 100000

theorem ordOk_of {L : List Int} (hk : ∀ x ∈ L, I8 x) (h : vOrd L = true) : OrdOk L := by
  intro x hx
  refine ⟨hk x hx, fun e => ?_⟩
  obtain ⟨i, hi, rfl⟩ := List.mem_iff_getElem.1 hx
  unfold vOrd at h
  simp only [Bool.and_eq_true, List.all_eq_true] at h
  have := h.2 i (List.mem_range.2 hi)
  rw [ordAt_of (List.getElem?_eq_getElem hi)] at this
  simp only [Bool.and_eq_true] at this
  have h1 := inR_iff.1 this.1
  rw [e] at h1
  exact absurd h1.1 (by decide)
def okBy (L : List Int) (a b : Bk) : Bool := vOrd L && (vBook a && vBook b)
def cbV (L : List Int) (a b : Bk) : Int := if okBy L a b = true then cmpBy L a b else 0
def cbE (L : List Int) (a b : Bk) : Int := if okBy L a b = true then 0 else 1
theorem cb_bad {L : List Int} {a b : Bk} (h : okBy L a b = false) : cbV L a b = 0 ∧ cbE L a b = 1 := by unfold cbV cbE; rw [h]; exact ⟨rfl, rfl⟩
theorem cb_ok {L : List Int} {a b : Bk} (h : okBy L a b = true) : cbV L a b = cmpBy L a b ∧ cbE L a b = 0 := by unfold cbV cbE; rw [h]; exact ⟨rfl, rfl⟩
set_option maxHeartbeats 4000000 in
theorem CompareBy_c (A : Option Addr) (c : Nat) (L : List Int) (a b : Bk) (w : World) (hL : (Kd.int .i8).C w A L.length L) (hk : ∀ x ∈ L, I8 x) :
    Calls Tryz.prog 19 #[.slice A L.length c, a.val, b.val] w (Ret w (.tuple #[.int .i64 (cbV L a b), .int .i64 (cbE L a b)])) := by
  obtain ⟨hbw, ha, hb⟩ := box_two w a b _ (Below.refl _ _)
  have HX := Aside0.mk (fun W h => compareBy_c A c L a b W h hk)
  have HVO := Aside0.mk (fun W h => ValidOrder_c A c L W h hk)
  have HVA := Aside0.mk (fun W => ValidBook_c a W)
  have HVB := Aside0.mk (fun W => ValidBook_c b W)
  have HBW := Aside0.mk hbw
  have HL := Aside0.mk hL
  have HAT := Aside0.mk ha
  have HBT := Aside0.mk hb
  clear hbw hL hk ha hb
  simp only [Bk.val] at HX HVA HVB ⊢
  cases h1 : vOrd L
  · have HR := Aside0.mk (cb_bad (L := L) (a := a) (b := b) (by unfold okBy; rw [h1]; rfl))
    rw [h1] at HVO
    clear h1
    go_enter Tryz.func19, Tryz.ntmps19
    go_wp2_with fail
    refine (HVO.out _ (Kd.C_below HL.out HBW.out)).mono ?_; rintro _ w1 ⟨rfl, hb1⟩
    have HB1 := Aside0.mk (bstep HBW.out hb1)
    clear hb1
    go_wp2_with fail
    go_ret2
    exact ⟨ret_two HR.out.1.symm HR.out.2.symm, HB1.out⟩
  · rw [h1] at HVO
    cases h2 : vBook a
    · have HR := Aside0.mk (cb_bad (L := L) (a := a) (b := b) (by unfold okBy; rw [h1, h2]; rfl))
      rw [h2] at HVA
      clear h1 h2
      go_enter Tryz.func19, Tryz.ntmps19
      go_wp2_with fail
      refine (HVO.out _ (Kd.C_below HL.out HBW.out)).mono ?_; rintro _ w1 ⟨rfl, hb1⟩
      have HB1 := Aside0.mk (bstep HBW.out hb1)
      obtain ⟨p0, p1, p2, p3, p4, p5, p6, p7⟩ := HAT.out.below hb1
      clear hb1
      go_wp2_with fail
      refine (HVA.out _).mono ?_; rintro _ w2 ⟨rfl, hb2⟩
      have HB2 := Aside0.mk (bstep HB1.out hb2)
      clear hb2 p0 p1 p2 p3 p4 p5 p6 p7
      go_wp2_with fail
      go_ret2
      exact ⟨ret_two HR.out.1.symm HR.out.2.symm, HB2.out⟩
    · rw [h2] at HVA
      cases h3 : vBook b
      · have HR := Aside0.mk (cb_bad (L := L) (a := a) (b := b) (by unfold okBy; rw [h1, h2, h3]; rfl))
        rw [h3] at HVB
        clear h1 h2 h3
        go_enter Tryz.func19, Tryz.ntmps19
        go_wp2_with fail
        refine (HVO.out _ (Kd.C_below HL.out HBW.out)).mono ?_; rintro _ w1 ⟨rfl, hb1⟩
        have HB1 := Aside0.mk (bstep HBW.out hb1)
        have HBT1 := Aside0.mk (HBT.out.below hb1)
        obtain ⟨p0, p1, p2, p3, p4, p5, p6, p7⟩ := HAT.out.below hb1
        clear hb1
        go_wp2_with fail
        refine (HVA.out _).mono ?_; rintro _ w2 ⟨rfl, hb2⟩
        have HB2 := Aside0.mk (bstep HB1.out hb2)
        obtain ⟨q0, q1, q2, q3, q4, q5, q6, q7⟩ := HBT1.out.below hb2
        clear hb2 p0 p1 p2 p3 p4 p5 p6 p7
        go_wp2_with fail
        refine (HVB.out _).mono ?_; rintro _ w3 ⟨rfl, hb3⟩
        have HB3 := Aside0.mk (bstep HB2.out hb3)
        clear hb3 q0 q1 q2 q3 q4 q5 q6 q7
        go_wp2_with fail
        go_ret2
        exact ⟨ret_two HR.out.1.symm HR.out.2.symm, HB3.out⟩
      · have HR := Aside0.mk (cb_ok (L := L) (a := a) (b := b) (by unfold okBy; rw [h1, h2, h3]; rfl))
        rw [h3] at HVB
        clear h1 h2 h3
        go_enter Tryz.func19, Tryz.ntmps19
        go_wp2_with fail
        refine (HVO.out _ (Kd.C_below HL.out HBW.out)).mono ?_; rintro _ w1 ⟨rfl, hb1⟩
        have HB1 := Aside0.mk (bstep HBW.out hb1)
        have HBT1 := Aside0.mk (HBT.out.below hb1)
        have HAT1 := Aside0.mk (HAT.out.below hb1)
        obtain ⟨p0, p1, p2, p3, p4, p5, p6, p7⟩ := HAT.out.below hb1
        clear hb1
        go_wp2_with fail
        refine (HVA.out _).mono ?_; rintro _ w2 ⟨rfl, hb2⟩
        have HB2 := Aside0.mk (bstep HB1.out hb2)
        have HBT2 := Aside0.mk (HBT1.out.below hb2)
        have HAT2 := Aside0.mk (HAT1.out.below hb2)
        obtain ⟨q0, q1, q2, q3, q4, q5, q6, q7⟩ := HBT1.out.below hb2
        clear hb2 p0 p1 p2 p3 p4 p5 p6 p7
        go_wp2_with fail
        refine (HVB.out _).mono ?_; rintro _ w3 ⟨rfl, hb3⟩
        have HB3 := Aside0.mk (bstep HB2.out hb3)
        obtain ⟨p0, p1, p2, p3, p4, p5, p6, p7⟩ := HAT2.out.below hb3
        clear q0 q1 q2 q3 q4 q5 q6 q7
        obtain ⟨q0, q1, q2, q3, q4, q5, q6, q7⟩ := HBT2.out.below hb3
        clear hb3
        go_wp2_with fail
        refine (HX.out _ (Kd.C_below HL.out HB3.out)).mono ?_; rintro _ w4 ⟨rfl, hb4⟩
        have HB4 := Aside0.mk (bstep HB3.out hb4)
        clear hb4 p0 p1 p2 p3 p4 p5 p6 p7 q0 q1 q2 q3 q4 q5 q6 q7
        go_wp2_with fail
        go_ret2
        exact ⟨ret_two HR.out.1.symm HR.out.2.symm, HB4.out⟩
end Go.Proofs.YtkoaangakmpggaaGreatDoor
end
section
/- Places in sorted rows of books: the plain laws. -/
namespace Go.Proofs.YtkoaangakmpggaaGreatDoor
open Go.RowKit Go.Proofs.YtkoaangakmpggaaGreatDoorW.PrintWords Go.Proofs.YtkoaangakmpggaaGreatDoorW.PrintMore
set_option linter.unusedVariables false
set_option linter.unusedSimpArgs false
set_option maxRecDepth 100000

theorem outAt_lt (L : List Bk) (j : Nat) : outAt L j = Srt.ltAt ltU L j (j - 1) := by
  unfold outAt Srt.ltAt
  cases L[j]? <;> cases L[j - 1]? <;> rfl
theorem seg_of_adj {α : Type} {lt : α → α → Bool} (hw : Srt.Wk lt) {L : List α} (h : ∀ j, 1 ≤ j → j < L.length → Srt.ltAt lt L j (j - 1) = false) : Srt.Seg lt L 0 L.length := by
  intro i j _ hij hj
  obtain ⟨d, rfl⟩ : ∃ d, j = i + 1 + d := ⟨j - i - 1, by omega⟩
  induction d with
  | zero => exact h (i + 1) (by omega) hj
  | succ d ih =>
    have h1 := ih (by omega) (by omega)
    have h2 := h (i + 1 + (d + 1)) (by omega) hj
    exact Srt.ltAt_ntr hw hj (j := i + 1 + d) (by omega) (by omega) h2 h1
theorem isS_up {L : List Bk} (h : isS L = true) : Srt.Up ltU L := by
  refine Srt.seg_all (seg_of_adj ltU_wk fun j h1 h2 => ?_)
  rw [← outAt_lt]
  exact (isS_iff L).1 h j h1 h2
theorem up_isS {L : List Bk} (h : Srt.Up ltU L) : isS L = true := by
  refine (isS_iff L).2 fun j h1 h2 => ?_
  have := Srt.up_seg (A := []) (B := []) h
  simp only [List.nil_append, List.append_nil, List.length_nil, Nat.zero_add] at this
  rw [outAt_lt]
  exact this (j - 1) j (Nat.zero_le _) (by omega) h2
/-- A test that, once it is so, stays so. -/
theorem findIdx_at {α : Type} {L : List α} {p : α → Bool} {k : Nat} (hk : k ≤ L.length) (h1 : ∀ x, x ∈ L.drop k → p x = true) (h2 : ∀ x, x ∈ L.take k → p x = false) : L.findIdx p = k := by
  rcases Nat.lt_or_ge k L.length with h | h
  · rw [List.findIdx_eq h]
    refine ⟨h1 _ ?_, fun j hj => h2 _ (List.mem_take_iff_getElem.2 ⟨j, by omega, rfl⟩)⟩
    rw [List.mem_drop_iff_getElem]
    exact ⟨0, by omega, by simp⟩
  · have : k = L.length := by omega
    subst this
    rw [List.findIdx_eq_length]
    intro x hx
    exact h2 x (by rwa [List.take_length])
theorem idx_of {α : Type} (L : List α) (p : α → Bool) : (if idxF L p < 0 then (L.length : Int) else idxF L p) = (L.findIdx p : Nat) := by
  unfold idxF
  by_cases h : L.any p = true
  · rw [if_pos h, if_neg (by omega)]
  · rw [if_neg h, if_pos (by omega)]
    congr 1
    symm
    rw [List.findIdx_eq_length]
    intro x hx
    cases e : p x
    · rfl
    · exact absurd (List.any_eq_true.2 ⟨x, hx, e⟩) h
/-- The place of a book in a sorted row. -/
def placeOf (b : Bk) (L : List Bk) : Nat := L.findIdx (ltU b)
theorem placeOf_eq {L : List Bk} {b : Bk} {k : Nat} (hu : Srt.Up ltU L) (hk : k ≤ L.length) (h1 : ∀ x, x ∈ L.drop k → ltU b x = true) (h2 : k = 0 ∨ ∃ y, L[k - 1]? = some y ∧ ltU b y = false) : placeOf b L = k := by
  refine findIdx_at hk h1 fun x hx => ?_
  rcases h2 with h2 | ⟨y, hy, hyb⟩
  · subst h2; simp at hx
  · have hk0 : 0 < k := by
      rcases Nat.eq_zero_or_pos k with e | e
      · subst e; simp at hx
      · exact e
    obtain ⟨i, hi, rfl⟩ := List.mem_take_iff_getElem.1 hx
    have hyl := (List.getElem?_eq_some_iff.1 hy)
    obtain ⟨hl, rfl⟩ := hyl
    by_cases e : i = k - 1
    · subst e; exact hyb
    · have := List.pairwise_iff_getElem.1 hu i (k - 1) (by omega) hl (by omega)
      exact ltU_wk.ntr _ _ _ hyb this
theorem cmpU_class {a b : Bk} (h : ltU b a = false) : a.c ≤ b.c := by
  have e : sgnCmp 1 b a = cmpI b.c a.c := by
    unfold sgnCmp
    rw [if_neg (by decide), show absF 1 = 1 by decide, fldCmp_one (by decide)]
    rfl
  have e2 : cmpU b a = if cmpI b.c a.c = 0 then cmpBy [2, 3] b a else cmpI b.c a.c := by rw [← e]; rfl
  rcases Int.lt_or_le b.c a.c with h3 | h3
  · exfalso
    have h4 : ltU b a = true := by
      unfold ltU
      rw [e2, cmpI_lt h3]
      rfl
    rw [h4] at h; cases h
  · exact h3
/-- Counted from the front, as long as it is so. -/
theorem count_findIdx {L : List Bk} (hu : Srt.Up ltU L) (n : Int) : (L.filter (fun b => decide (b.c < n))).length = L.findIdx (fun b => decide (n ≤ b.c)) := by
  induction L with
  | nil => rfl
  | cons x L ih =>
    have hp := List.pairwise_cons.1 hu
    by_cases h : x.c < n
    · rw [List.filter_cons_of_pos (by simpa using h), List.length_cons, ih hp.2, List.findIdx_cons]
      rw [decide_eq_false (by omega)]; rfl
    · rw [List.filter_cons_of_neg (by simpa using h), List.findIdx_cons, decide_eq_true (by omega)]
      rw [List.filter_eq_nil_iff.2]
      · rfl
      · intro y hy
        have := cmpU_class (hp.1 y hy)
        simp; omega
end Go.Proofs.YtkoaangakmpggaaGreatDoor
end
section
/- Lists of books that have to be valid and sorted: the program's code and the reference's. -/
namespace Go.Proofs.YtkoaangakmpggaaGreatDoor
open Go.RowKit Go.Proofs.YtkoaangakmpggaaGreatDoorW.PrintWords Go.Proofs.YtkoaangakmpggaaGreatDoorW.PrintMore
set_option linter.unusedVariables false
set_option linter.unusedSimpArgs false
set_option maxRecDepth 100000

/-- A list of books as a value: its address, its capacity, its books. -/
structure SlB where
  A : Option Addr
  c : Nat
  L : List Bk
def SlB.val (x : SlB) : Value := .slice x.A x.L.length x.c
def kSl : Kd SlB := Kd.flat (fun x => [x.val]) 1 (fun _ => rfl) (fun x u hu => by
  rw [List.mem_singleton.1 hu]
  rfl)
theorem at_sl {xs : List SlB} {w : World} {A : Option Addr} {n : Nat} (h : kSl.C w A n xs) (i : Nat) (hi : i < n) :
    ∃ ad x, A = some ad ∧ Aside0 (xs[i]? = some x) ∧ w.cell? (ad.add i) = some (.slice x.A x.L.length x.c) := by
  have hl : i < xs.length := by have := Kd.C_len h; omega
  obtain ⟨ad, c, e, hc, hK, hcc⟩ := Kd.C_get h xs[i] i (by omega) (by omega)
  rw [Int.toNat_natCast] at hK hcc
  have hx : xs.getD i xs[i] = xs[i] := by simp [List.getD_eq_getElem?_getD, List.getElem?_eq_getElem hl]
  rw [hx] at hK
  have hK' : c = [xs[i].val] := hK
  subst hK'
  have hcc' : ∀ j u, [xs[i].val][j]? = some u → w.cell? (ad.add (i * 1 + j)) = some u := hcc
  have := hcc' 0 _ rfl
  refine ⟨ad, xs[i], e, ⟨List.getElem?_eq_getElem hl⟩, ?_⟩
  rw [show i * 1 + 0 = i by omega] at this
  exact this

def sCodes (LL : List SlB) : Int := if LL.all (fun x => vBooks x.L) = true then (if LL.all (fun x => isS x.L) = true then 0 else 4) else 1
def sCode (L : List Bk) : Int := if vBooks L = true then (if isS L = true then 0 else 4) else 1
theorem sCodes_one (x : SlB) : sCodes [x] = sCode x.L := by simp [sCodes, sCode]
/-- A box of lists reads as a list of lists. -/
theorem box_Sl (w : World) (xs : List SlB) (hm : xs.length ≤ 9223372036854775807) : kSl.C (w.alloc (.cells (xs.map SlB.val).toArray 24)) (some ⟨w.heap.size, 0, none⟩) xs.length xs := by
  refine ⟨rfl, hm, fun _ => ⟨_, rfl, fun j p hj => ⟨[p.val], rfl, rfl, fun i u hu => ?_⟩⟩⟩
  match i, hu with
  | 0, hu =>
    cases hu
    rw [add_plain, blk_cell (blk_new w _)]
    have : kSl.sz = 1 := rfl
    rw [this]
    simp [hj]
end Go.Proofs.YtkoaangakmpggaaGreatDoor
end
section
/- PlaceFor: the program's and the reference's. -/
namespace Go.Proofs.YtkoaangakmpggaaGreatDoor
open Go.RowKit Go.Proofs.YtkoaangakmpggaaGreatDoorW.PrintWords Go.Proofs.YtkoaangakmpggaaGreatDoorW.PrintMore
set_option linter.unusedVariables false
set_option linter.unusedSimpArgs false
set_option maxRecDepth 100000

theorem ltU_anti (x b : Bk) : decide (0 < cmpU x b) = ltU b x := by
  unfold ltU
  have := (cmpBy_pre usualL).anti x b
  rw [decide_eq_decide]
  unfold cmpU
  omega
def pfC (L : List Bk) (b : Bk) : Int := if vBook b = true then (if sCode L = 0 then (if L.length = 60 then 3 else 0) else sCode L) else 1
def pfV (L : List Bk) (b : Bk) : Int := if pfC L b = 0 then (placeOf b L : Nat) else 0
theorem pf_bad {L : List Bk} {b : Bk} {e : Int} (h : pfC L b = e) (he : e ≠ 0) : pfV L b = 0 ∧ pfC L b = e := ⟨by unfold pfV; rw [h, if_neg he], h⟩
theorem pf_ok {L : List Bk} {b : Bk} (h : pfC L b = 0) : pfV L b = (placeOf b L : Nat) ∧ pfC L b = 0 := ⟨by unfold pfV; rw [h, if_pos rfl], h⟩
theorem sCode_zero {L : List Bk} : sCode L = 0 ↔ vBooks L = true ∧ isS L = true := by
  unfold sCode
  by_cases h1 : vBooks L = true <;> by_cases h2 : isS L = true <;> simp [h1, h2]
theorem drop_cons {α : Type} {L : List α} {j : Nat} {x : α} (h : L[j]? = some x) : L.drop j = x :: L.drop (j + 1) := by
  obtain ⟨hl, he⟩ := List.getElem?_eq_some_iff.1 h
  rw [List.drop_eq_getElem_cons hl, he]
end Go.Proofs.YtkoaangakmpggaaGreatDoor
end
section
/- SortBooks: the program's; SortBooks: the reference's; SortBooks: the reference's, as a whole. -/
namespace Go.Proofs.YtkoaangakmpggaaGreatDoor
open Go.RowKit Go.Proofs.YtkoaangakmpggaaGreatDoorW.PrintWords Go.Proofs.YtkoaangakmpggaaGreatDoorW.PrintMore
set_option linter.unusedVariables false
set_option linter.unusedSimpArgs false
set_option maxRecDepth 100000

theorem sortClo_c (p : Addr) (A : Option Addr) (c : Nat) (O : List Int) (x y : Bk) (w : World) (hp : w.cell? p = some (.slice A O.length c)) (hpl : p.block < w.heap.size) (hO : (Kd.int .i8).C w A O.length O) (hk : ∀ x ∈ O, I8 x) :
    Calls Tryz.prog 34 (#[x.val, y.val] ++ #[.pointer (some p)]) w (Ret w (.int .i64 (cmpBy O x y))) := by
  show Calls Tryz.prog 34 #[x.val, y.val, .pointer (some p)] w (Ret w (.int .i64 (cmpBy O x y)))
  have HC := Aside0.mk (fun W h => compareBy_c A c O x y W h hk)
  have HO := Aside0.mk hO
  have HB := Aside0.mk (balloc (balloc (Below.refl w.heap.size w) (.cells #[.int .i16 x.c, .int .u8 x.m0, .int .u8 x.m1, .int .u8 x.m2, .int .i16 x.v, .int .i16 x.wd, .int .i16 x.h, .int .i16 x.wt] 44)) (.cells #[.int .i16 y.c, .int .u8 y.m0, .int .u8 y.m1, .int .u8 y.m2, .int .i16 y.v, .int .i16 y.wd, .int .i16 y.h, .int .i16 y.wt] 44))
  have hp2 := (HB.out.cell hpl).trans hp
  obtain ⟨p0, p1, p2, p3, p4, p5, p6, p7⟩ := (BkAt.box w x 44).below (balloc (Below.refl _ _) (.cells #[.int .i16 y.c, .int .u8 y.m0, .int .u8 y.m1, .int .u8 y.m2, .int .i16 y.v, .int .i16 y.wd, .int .i16 y.h, .int .i16 y.wt] 44))
  have hbb := BkAt.box (w.alloc (.cells #[.int .i16 x.c, .int .u8 x.m0, .int .u8 x.m1, .int .u8 x.m2, .int .i16 x.v, .int .i16 x.wd, .int .i16 x.h, .int .i16 x.wt] 44)) y 44
  simp only [World.size_alloc] at hbb
  obtain ⟨q0, q1, q2, q3, q4, q5, q6, q7⟩ := hbb
  clear hp hO hpl
  simp only [Bk.val] at HC ⊢
  go_enter Tryz.func34, Tryz.ntmps34
  go_wp2_with fail
  refine (HC.out _ (Kd.C_below HO.out HB.out)).mono ?_; rintro _ w1 ⟨rfl, hb1⟩
  have HB1 := Aside0.mk (bstep HB.out hb1)
  clear hb1 p0 p1 p2 p3 p4 p5 p6 p7 q0 q1 q2 q3 q4 q5 q6 q7
  go_wp2_with fail
  go_ret
  exact ⟨rfl, HB1.out⟩
def okSort (O : List Int) (L : List Bk) : Bool := vOrd O && vBooks L
def sortV (O : List Int) (L : List Bk) : List Bk := if okSort O L = true then Srt.sortL (ltBy O) L else []
def sortE (O : List Int) (L : List Bk) : Int := if okSort O L = true then 0 else 1
theorem sort_bad {O : List Int} {L : List Bk} (h : okSort O L = false) : sortV O L = [] ∧ sortE O L = 1 := by unfold sortV sortE; rw [h]; exact ⟨rfl, rfl⟩
theorem sort_good {O : List Int} {L : List Bk} (h : okSort O L = true) : sortV O L = Srt.sortL (ltBy O) L ∧ sortE O L = 0 := by unfold sortV sortE; rw [h]; exact ⟨rfl, rfl⟩
theorem sortV_len (O : List Int) (L : List Bk) : (sortV O L).length ≤ 2097152 := by
  unfold sortV
  split
  · rename_i h
    have h2 := (Bool.and_eq_true_iff.1 h).2
    have := vBooks_len h2
    rw [← Srt.Stab.length (ltBy_wk O) (Srt.sortL_ok (ltBy_wk O) L).2]
    omega
  · simp
theorem sort_box (A0 A1 : Option Addr) (c0 : Nat) (O : List Int) (L : List Bk) (w W : World) (hO : (Kd.int .i8).C w A0 O.length O) (hL : kBk.C w A1 L.length L) (h : Below (w.heap.size + 1) (w.alloc (.cells #[.slice A0 O.length c0] 26)) W) :
    W.cell? ⟨w.heap.size, 0, none⟩ = some (.slice A0 O.length c0) ∧ w.heap.size < W.heap.size ∧ (Kd.int .i8).C W A0 O.length O ∧ kBk.C W A1 L.length L ∧ Below w.heap.size w W := by
  have h0 : (w.alloc (.cells #[.slice A0 O.length c0] 26)).heap.size = w.heap.size + 1 := by simp
  have hb := balloc (Below.refl w.heap.size w) (.cells #[.slice A0 O.length c0] 26)
  have hb2 : Below w.heap.size w W := hb.trans (h.mono (by omega))
  have hs := h.size
  rw [h0] at hs
  exact ⟨(h.cell (p := ⟨w.heap.size, 0, none⟩) (Nat.lt_succ_self _)).trans ((blk_cell (blk_new w _) 0).trans rfl), by omega, Kd.C_below hO hb2, Kd.C_below hL hb2, hb2⟩
theorem SortBooks_c (A0 A1 : Option Addr) (c0 c1 : Nat) (O : List Int) (L : List Bk) (w : World) (hO : (Kd.int .i8).C w A0 O.length O) (hk : ∀ x ∈ O, I8 x) (hL : kBk.C w A1 L.length L) :
    Calls Tryz.prog 7 #[.slice A0 O.length c0, .slice A1 L.length c1] w (RetQ w (TupB w (sortV O L) (sortE O L))) := by
  have HX := Aside0.mk (fun W h => sort_box A0 A1 c0 O L w W hO hL h)
  have HS := Aside0.mk (show Below (w.heap.size + 1) (w.alloc (.cells #[.slice A0 O.length c0] 26)) (w.alloc (.cells #[.slice A0 O.length c0] 26)) from Below.refl _ _)
  have hb := balloc (Below.refl w.heap.size w) (.cells #[.slice A0 O.length c0] 26)
  have HL := Aside0.mk (Kd.C_below hL hb)
  have HO := Aside0.mk (Kd.C_below hO hb)
  have HV := Aside0.mk (fun W h => ValidOrder_c A0 c0 O W h hk)
  have HVB := Aside0.mk (fun W h => ValidBooks_c A1 c1 L W h)
  have HCL := Aside0.mk (fun p W h1 h2 h3 x y => sortClo_c p A0 c0 O x y W h1 h2 h3 hk)
  have hcell : (w.alloc (.cells #[.slice A0 O.length c0] 26)).cell? ⟨w.heap.size, 0, none⟩ = some (.slice A0 O.length c0) := (blk_cell (blk_new w _) 0).trans rfl
  have HSZ := Aside0.mk (show (w.alloc (.cells #[.slice A0 O.length c0] 26)).heap.size = w.heap.size + 1 by simp)
  clear hO hL hb
  cases h1 : vOrd O
  · have HE := Aside0.mk (sort_bad (O := O) (L := L) (by unfold okSort; rw [h1]; rfl))
    rw [h1] at HV
    clear h1
    go_enter Tryz.func7, Tryz.ntmps7
    go_wp2_with fail
    refine (HV.out _ HO.out).mono ?_; rintro _ w1 ⟨rfl, hb1⟩
    have HS1 := Aside0.mk (HS.out.trans (hb1.mono (by rw [HSZ.out]; exact Nat.le_refl _)))
    clear hb1
    go_wp2_with fail
    go_ret2
    rw [HE.out.1, HE.out.2]
    exact ⟨_, rfl, (HX.out _ HS1.out).2.2.2.2, _, rfl, Kd.R_nil _ _ _ _ _⟩
  · cases h2 : vBooks L
    · have HE := Aside0.mk (sort_bad (O := O) (L := L) (by unfold okSort; rw [h1, h2]; rfl))
      rw [h1] at HV
      rw [h2] at HVB
      clear h1 h2
      go_enter Tryz.func7, Tryz.ntmps7
      go_wp2_with fail
      refine (HV.out _ HO.out).mono ?_; rintro _ w1 ⟨rfl, hb1⟩
      have HS1 := Aside0.mk (HS.out.trans (hb1.mono (by rw [HSZ.out]; exact Nat.le_refl _)))
      clear hb1
      go_wp2_with fail
      refine (HVB.out _ (HX.out _ HS1.out).2.2.2.1).mono ?_; rintro _ w2 ⟨rfl, hb2⟩
      have HS2 := Aside0.mk (HS1.out.trans (hb2.mono (HX.out _ HS1.out).2.1))
      clear hb2
      go_wp2_with fail
      go_ret2
      rw [HE.out.1, HE.out.2]
      exact ⟨_, rfl, (HX.out _ HS2.out).2.2.2.2, _, rfl, Kd.R_nil _ _ _ _ _⟩
    · have HE := Aside0.mk (sort_good (O := O) (L := L) (by unfold okSort; rw [h1, h2]; rfl))
      have hl := vBooks_len h2
      rw [h1] at HV
      rw [h2] at HVB
      clear h1 h2
      go_enter Tryz.func7, Tryz.ntmps7
      go_wp2_with fail
      refine (HV.out _ HO.out).mono ?_; rintro _ w1 ⟨rfl, hb1⟩
      have HS1 := Aside0.mk (HS.out.trans (hb1.mono (by rw [HSZ.out]; exact Nat.le_refl _)))
      clear hb1
      go_wp2_with fail
      refine (HVB.out _ (HX.out _ HS1.out).2.2.2.1).mono ?_; rintro _ w2 ⟨rfl, hb2⟩
      have HS2 := Aside0.mk (HS1.out.trans (hb2.mono (HX.out _ HS1.out).2.1))
      clear hb2
      go_wp2_with fail
      refine (clone_c A1 c1 L w2 (HX.out _ HS2.out).2.2.2.1 (by omega)).mono ?_; rintro _ w3 ⟨v, rfl, hb3, hv⟩
      have HS3 := Aside0.mk (HS2.out.trans (hb3.mono (HX.out _ HS2.out).2.1))
      have HV3 := Aside0.mk (show kBk.R 44 w3 (w.heap.size + 1) (fun _ => True) v L from Kd.R_lower hv (HX.out _ HS2.out).2.1)
      clear hb3 hv
      have HFN : Fun Tryz.prog 34 := ⟨_, Tryz.func34, rfl, rfl⟩
      have HCM := Aside0.mk (show ∀ g, v.ownBlock = some g → CmpOk 34 #[.pointer (some ⟨w.heap.size, 0, none⟩)] (cmpBy O) g w3 from fun g hg => ⟨HFN, fun W hW x y => by
        have h4 : Below (w.heap.size + 1) (w.alloc (.cells #[.slice A0 O.length c0] 26)) W := pw_below_grown HS3.out _ (HX.out _ HS3.out).2.1 hW (fun k hk => by
          cases hk; exact Kd.R_base HV3.out _ hg)
        have h5 := HX.out _ h4
        exact HCL.out _ W h5.1 h5.2.1 h5.2.2.1 x y⟩)
      go_wp2_with fail
      refine (sortStable_c v L _ _ (cmpBy O) (ltBy_wk O) _ _ w3 HV3.out (by omega) HCM.out).mono ?_; rintro _ w4 ⟨rfl, h5, h6⟩
      have H5 := Aside0.mk h5
      have HS4 := Aside0.mk (pw_below_grown HS3.out _ (HX.out _ HS3.out).2.1 h6 (fun k hk => Kd.R_base HV3.out _ hk))
      clear h5 h6
      go_wp2_with fail
      go_ret2
      rw [HE.out.1, HE.out.2]
      exact ⟨_, rfl, (HX.out _ HS4.out).2.2.2.2, _, rfl, Kd.R_lower H5.out (Nat.le_succ _)⟩
theorem put_get {O : List Bk} {z : Bk} {k : Nat} (h0 : 0 < k) (hk : k ≤ O.length) : (O.take k ++ z :: O.drop k)[k - 1]? = O[k - 1]? := by
  rw [List.getElem?_append_left (by rw [List.length_take]; omega), List.getElem?_take, if_pos (by omega)]
theorem put_set {O : List Bk} {z x : Bk} {k : Nat} (hk : k ≤ O.length) : (O.take k ++ z :: O.drop k).set k x = O.take k ++ x :: O.drop k := by
  have hl : (O.take k).length = k := by rw [List.length_take]; omega
  rw [List.set_append_right _ _ (by omega), hl, Nat.sub_self, List.set_cons_zero]
theorem put_step {O : List Bk} {z y : Bk} {k : Nat} (h0 : 0 < k) (hy : O[k - 1]? = some y) : (O.take k ++ z :: O.drop k).set k y = O.take (k - 1) ++ y :: O.drop (k - 1) := by
  have hl := (List.getElem?_eq_some_iff.1 hy).1
  rw [put_set (by omega)]
  have h1 : O.take k = O.take (k - 1) ++ [y] := by
    have := take_snoc hy
    rwa [show k - 1 + 1 = k by omega] at this
  have h2 : O.drop (k - 1) = y :: O.drop k := by
    have := drop_cons hy
    rwa [show k - 1 + 1 = k by omega] at this
  rw [h1, h2]
  simp
/-- A place that is reached: the list is sorted. -/
theorem put_end {lt : Bk → Bk → Bool} (hw : Srt.Wk lt) {L : List Bk} {i : Nat} {x : Bk} {k : Nat} (hx : L[i]? = some x) (hk : k ≤ (Srt.sortL lt (L.take i)).length) (h1 : ∀ y, y ∈ (Srt.sortL lt (L.take i)).drop k → lt x y = true)
    (h2 : k = 0 ∨ ∃ y, (Srt.sortL lt (L.take i))[k - 1]? = some y ∧ lt x y = false) :
    (Srt.sortL lt (L.take i)).take k ++ x :: (Srt.sortL lt (L.take i)).drop k = Srt.sortL lt (L.take (i + 1)) := by
  have ho := Srt.sortL_ok hw (L.take i)
  have hp := Srt.put_ok hw (x := x) (k := k) ho.1 h1 (by
    intro y hy
    rcases h2 with h2 | ⟨q, hq, hq2⟩
    · rw [h2] at hy; simp at hy
    · obtain ⟨j, hj, rfl⟩ := List.getElem_of_mem hy
      rw [List.length_take] at hj
      rw [List.getElem_take]
      by_cases e : j = k - 1
      · subst e
        obtain ⟨hl, he⟩ := List.getElem?_eq_some_iff.1 hq
        rw [he]; exact hq2
      · obtain ⟨hl, he⟩ := List.getElem?_eq_some_iff.1 hq
        have hu := List.pairwise_iff_getElem.1 ho.1 j (k - 1) (by omega) hl (by omega)
        rw [he] at hu
        exact hw.ntr _ _ _ hq2 hu)
  rw [take_snoc hx]
  exact Srt.sortL_of hw hp.1 ((Srt.Stab.app ho.2 (Srt.Stab.refl lt [x])).trans hp.2)
structure PutIn (lt : Bk → Bk → Bool) (x : Bk) (O C : List Bk) (k : Nat) : Prop where
  le : k ≤ O.length
  is : ∃ z, C = O.take k ++ z :: O.drop k
  up : ∀ y, y ∈ O.drop k → lt x y = true
theorem sortL_len {lt : Bk → Bk → Bool} (hw : Srt.Wk lt) (L : List Bk) : (Srt.sortL lt L).length = L.length := (Srt.Stab.length hw (Srt.sortL_ok hw L).2).symm
theorem sortL_mem {lt : Bk → Bk → Bool} (hw : Srt.Wk lt) (L : List Bk) (x : Bk) : x ∈ Srt.sortL lt L ↔ x ∈ L := (Srt.Stab.mem hw (Srt.sortL_ok hw L).2 x).symm
set_option maxHeartbeats 8000000 in
theorem l01Sorted_c (A0 A1 : Option Addr) (c0 c1 : Nat) (R : List Int) (L : List Bk) (w : World) (hO : (Kd.int .i8).C w A0 R.length R) (hk : OrdOk R) (hL : kBk.C w A1 L.length L) (hok : OkL L) (hn : L.length ≤ 60) :
    Calls Tryz.prog 38 #[.slice A0 R.length c0, .slice A1 L.length c1] w (RetQ w (NewBk w (Srt.sortL (ltBy R) L))) := by
  have HL := Aside0.mk hL
  have HR0 := Aside0.mk hO
  have HOK := Aside0.mk hok
  have HKK := Aside0.mk hk
  have hw := Aside0.mk (ltBy_wk R)
  clear hL hO hok hk
  go_enter Tryz.func38, Tryz.ntmps38
  go_wp2
  go_loopg [5, 6] L.length (fun gk v5 v6 wr => ∃ (i : Nat), i + gk = L.length ∧ v6 = .int .i64 i ∧ Aside0 (kBk.R 44 wr w.heap.size (fun _ => True) v5 (Srt.sortL (ltBy R) (L.take i))) ∧ Aside0 (Below w.heap.size w wr))
  case atStart => exact ⟨0, by omega, rfl, ⟨R_zero _ _ _ _ _ (Nat.le_refl _) trivial⟩, ⟨balloc (Below.refl _ _) _⟩⟩
  case round =>
    obtain ⟨i, hg, rfl, HR, HB⟩ := hrel
    have HG := Aside0.mk hg
    by_cases hlt : i < L.length
    · obtain ⟨OO, hOO⟩ : ∃ OO, OO = Srt.sortL (ltBy R) (L.take i) := ⟨_, rfl⟩
      rw [← hOO] at HR
      have HOO := Aside0.mk hOO
      have hOl : OO.length = i := by rw [hOO, sortL_len hw.out, List.length_take]; omega
      clear hOO
      obtain ⟨ad, x, rfl, hx, hxb⟩ := at_bk' (Kd.C_below HL.out HB.out) i hlt
      have HX := Aside0.mk hxb
      obtain ⟨x0, x1, x2, x3, x4, x5, x6, x7⟩ := hxb
      obtain ⟨A5, c5, rfl⟩ := Kd.R_slice HR.out
      rw [hOl] at HR ⊢
      have i0 : (0 : Int) ≤ (i : Int) := by omega
      have i1 : (i : Int) < (L.length : Int) := by omega
      clear hg
      go_wp2_with (at_builtin; refine bk_append (w := w) rfl (.tmp 17) (.tmp 22) rfl _ OO x rfl rfl HR.out HB.out (by omega) ?_; intro v1 w1 hR1 hB1 hg1; have HR1 := Aside0.mk hR1; have HB1 := Aside0.mk hB1; clear hR1 hB1 hg1)
      obtain ⟨g, cap, rfl, hgB, hgl, _⟩ := Kd.R_form HR1.out (by simp)
      have hC1 : (OO ++ [x]).length = i + 1 := by simp [hOl]
      rw [hC1] at HR1 ⊢
      have HR2 := Aside0.mk (show RowIs w.heap.size (fun _ => True) w1 g (i + 1) cap (OO ++ [x]) w1 from ⟨HR1.out, World.grownBy.refl _ _⟩)
      clear HR HR1 x0 x1 x2 x3 x4 x5 x6 x7
      obtain ⟨wo, rfl⟩ : ∃ wo : World, wo = wr := ⟨_, rfl⟩
      obtain ⟨gO, rfl⟩ : ∃ g : Nat, g = gk := ⟨_, rfl⟩
      go_loopg [7] i (fun gk v7 wr => ∃ (k : Nat) (C : List Bk), k = gk ∧ v7 = .int .i64 k ∧ Aside0 (PutIn (ltBy R) x OO C k) ∧ Aside0 (RowIs w.heap.size (fun _ => True) w1 g (i + 1) cap C wr) ∧ Aside0 (Below w.heap.size w wr))
      case atStart => exact ⟨i, _, rfl, rfl, ⟨⟨by omega, ⟨x, by rw [List.take_of_length_le (by omega), List.drop_of_length_le (by omega)]⟩, fun y hy => by rw [List.drop_of_length_le (by omega)] at hy; cases hy⟩⟩, HR2, HB1⟩
      case round =>
        clear HR2 HB1
        obtain ⟨k, C, rfl, rfl, HP, HR, HB⟩ := hrel
        have hki : k ≤ i := by have := HP.out.le; omega
        have hxb := HX.out.below (show Below wo.heap.size wo wo from Below.refl _ _)
        obtain ⟨ad', x', e1, hx', hxb'⟩ := at_bk' (Kd.C_below HL.out HB.out) i hlt
        injection e1 with e1
        subst e1
        obtain rfl : x' = x := by have := hx'.out; rw [hx.out] at this; exact (Option.some.inj this).symm
        clear hxb
        have HXB := Aside0.mk hxb'
        by_cases hk0 : k = 0
        · have e0 : decide (0 < k) = false := by simp; omega
          have HN := Aside0.mk (put_end (k := k) hw.out hx.out (by rw [← HOO.out]; omega) (by rw [← HOO.out]; exact HP.out.up) (.inl hk0))
          obtain ⟨x0, x1, x2, x3, x4, x5, x6, x7⟩ := hxb'
          have HK := Aside0.mk hk0
          have k0 : (0 : Int) ≤ (k : Int) := by omega
          have k1 : (k : Int) < (i : Int) + 1 := by omega
          clear hk0
          go_wp2_with fail
          go_quiet (fail)
          go_wp2_with (refine bk_store (w := w) w.heap.size rfl rfl (.tmp 54) (.tmp 53) rfl k _ x' (fun _ => True) rfl (by omega) rfl (Kd.R_drewN HR.out.1 _) (by omega) (bdrewN HB.out _) ?_; intro w3 hR3 hB3 hg3; have HR3 := Aside0.mk hR3; have HB3 := Aside0.mk hB3; clear hR3 hB3 hg3)
          go_roundg (gO - 1)
          case measure => have := HG.out; omega
          exact ⟨i + 1, by have := HG.out; omega, by go_num, ⟨by
            have h1 := HR3.out
            obtain ⟨z, hz⟩ := HP.out.is
            rw [hz, put_set HP.out.le, HOO.out, HN.out] at h1
            exact h1⟩, HB3⟩
        · have hk1 : k - 1 < i + 1 := by omega
          obtain ⟨y, hy, r0, r1, r2, r3, r4, r5, r6, r7, s0, s1, s2, s3, s4, s5, s6, s7⟩ := row_at HR.out.1 hk1
          have hyO : OO[k - 1]? = some y := by
            obtain ⟨z, hz⟩ := HP.out.is
            have := hy.out
            rwa [hz, put_get (by omega) HP.out.le] at this
          have hyL : y ∈ L := List.mem_of_mem_take ((sortL_mem hw.out _ y).1 (by rw [← HOO.out]; exact mem_of hyO))
          have HYO := Aside0.mk hyO
          have HC := Aside0.mk (l01Compare_c A0 c0 R (ad.add (i * 8)) ⟨g, (k - 1) * 8, none⟩ x' y (HOK.out _ (mem_of hx.out)) (HOK.out _ hyL) wr.drew (Kd.C_below HR0.out (bdrew HB.out)) HKK.out (hxb'.below (bdrew (Below.refl _ _))) ⟨r0, r1, r2, r3, r4, r5, r6, r7⟩)
          have e0 : decide (0 < k) = true := by simp; omega
          have q0 : (0 : Int) ≤ (k : Int) := by omega
          have q1 : (1 : Int) ≤ (k : Int) := by omega
          have q2 : (k : Int) < (i : Int) + 1 := by omega
          have q3 : (k : Int) < (i : Int) + 1 + 1 := by omega
          have q4 : (k : Int) - 1 < (i : Int) + 1 := by omega
          have q5 : (0 : Int) ≤ (k : Int) - 1 := by omega
          have q6 : ((k : Int) - 1).toNat = k - 1 := by omega
          have q7 : IntKind.i64.wrap ((k : Int) - 1) = (k : Int) - 1 := by simp only [IntKind.wrap, IntKind.bits, IntKind.signed, Bool.true_and, decide_eq_true_eq, ge_iff_le]; split <;> omega
          have HK := Aside0.mk hk0
          clear hyO hyL hk0 hxb' r0 r1 r2 r3 r4 r5 r6 r7 s0 s1 s2 s3 s4 s5 s6 s7
          go_wp2_with fail
          go_still_tail 11, (by kernel_rfl)
          go_wp2_with fail
          refine HC.out.mono ?_; rintro _ w2 ⟨rfl, hb2⟩
          have HR2 := Aside0.mk (RowIs.below (RowIs.drew HR.out) hb2)
          have HB2 := Aside0.mk (bstep (bdrew HB.out) hb2)
          have HX2 := Aside0.mk ((HXB.out.below (bdrew (Below.refl _ _))).below hb2)
          clear hb2
          by_cases hlow : cmpBy R x' y < 0
          · have e4 : decide (cmpBy R x' y < 0) = true := by simpa using hlow
            have HS := Aside0.mk (show ∀ q, q ∈ OO.drop (k - 1) → ltBy R x' q = true by
              intro q hq
              rw [drop_cons HYO.out] at hq
              rcases List.mem_cons.1 hq with rfl | hq
              · exact e4
              · exact HP.out.up q (by rw [show k = k - 1 + 1 by have := HK.out; omega]; exact hq))
            obtain ⟨r0, r1, r2, r3, r4, r5, r6, r7, s0, s1, s2, s3, s4, s5, s6, s7⟩ := row_of HR2.out.1 hk1 hy.out
            go_wp2_with (refine bk_store (w := w) w.heap.size rfl rfl (.tmp 45) (.tmp 44) rfl k _ y (fun _ => True) rfl (by omega) rfl HR2.out.1 (by omega) HB2.out ?_; intro w3 hR3 hB3 hg3; have HR3 := Aside0.mk (show RowIs w.heap.size (fun _ => True) w1 g (i + 1) cap (C.set k y) w3 from ⟨hR3, HR2.out.2.trans hg3⟩); have HB3 := Aside0.mk hB3; clear hR3 hB3 hg3)
            go_roundg (k - 1)
            case measure => have := HK.out; omega
            exact ⟨k - 1, C.set k y, rfl, by first | go_num | (congr 1; have := HK.out; omega), ⟨⟨by omega, ⟨y, by obtain ⟨z, hz⟩ := HP.out.is; rw [hz]; exact put_step (by have := HK.out; omega) HYO.out⟩, HS.out⟩⟩, HR3, HB3⟩
          · have e4 : decide (cmpBy R x' y < 0) = false := by simpa using hlow
            have HN := Aside0.mk (put_end (k := k) hw.out hx.out (by rw [← HOO.out]; omega) (by rw [← HOO.out]; exact HP.out.up) (.inr ⟨y, by rw [← HOO.out]; exact HYO.out, e4⟩))
            obtain ⟨x0, x1, x2, x3, x4, x5, x6, x7⟩ := HX2.out
            go_wp2_with (refine bk_store (w := w) w.heap.size rfl rfl (.tmp 54) (.tmp 53) rfl k _ x' (fun _ => True) rfl (by omega) rfl HR2.out.1 (by omega) HB2.out ?_; intro w3 hR3 hB3 hg3; have HR3 := Aside0.mk hR3; have HB3 := Aside0.mk hB3; clear hR3 hB3 hg3)
            go_roundg (gO - 1)
            case measure => have := HG.out; omega
            exact ⟨i + 1, by have := HG.out; omega, by go_num, ⟨by
              have h1 := HR3.out
              obtain ⟨z, hz⟩ := HP.out.is
              rw [hz, put_set HP.out.le, HOO.out, HN.out] at h1
              exact h1⟩, HB3⟩
    · go_wp2
      go_ret
      exact ⟨_, rfl, HB.out, by have := HR.out; rw [List.take_of_length_le (by omega)] at this; exact this⟩
theorem specSortBooks_c (A0 A1 : Option Addr) (c0 c1 : Nat) (O : List Int) (L : List Bk) (hok : OkL L) (w : World) (hO : (Kd.int .i8).C w A0 O.length O) (hk : ∀ x ∈ O, I8 x) (hL : kBk.C w A1 L.length L) :
    Calls Tryz.prog 8 #[.slice A0 O.length c0, .slice A1 L.length c1] w (RetQ w (TupB w (sortV O L) (sortE O L))) := by
  have HL := Aside0.mk hL
  have HO := Aside0.mk hO
  have HOK := Aside0.mk hok
  have HV := Aside0.mk (l01Order_c A0 c0 O w hO hk)
  have HVB := Aside0.mk (fun W h => l01Ok_c A1 c1 L hok W h)
  cases h1 : vOrd O
  · have HE := Aside0.mk (sort_bad (O := O) (L := L) (by unfold okSort; rw [h1]; rfl))
    rw [h1] at HV
    clear h1 hO hL hok
    go_enter Tryz.func8, Tryz.ntmps8
    go_wp2_with fail
    refine HV.out.mono ?_; rintro _ w1 ⟨rfl, hb1⟩
    have HZ := Aside0.mk (R_zero kBk 44 w1 w.heap.size (fun _ => True) hb1.size trivial)
    have HB2 := Aside0.mk (balloc hb1 (.cells #[] 44))
    clear hb1
    go_wp2_with fail
    go_ret2
    rw [HE.out.1, HE.out.2]
    exact ⟨_, rfl, HB2.out, _, rfl, HZ.out⟩
  · cases h2 : vBooks L
    · have HE := Aside0.mk (sort_bad (O := O) (L := L) (by unfold okSort; rw [h1, h2]; rfl))
      rw [h1] at HV
      rw [h2] at HVB
      clear h1 h2 hO hL hok
      go_enter Tryz.func8, Tryz.ntmps8
      go_wp2_with fail
      refine HV.out.mono ?_; rintro _ w1 ⟨rfl, hb1⟩
      go_wp2_with fail
      refine (HVB.out _ (Kd.C_below HL.out hb1)).mono ?_; rintro _ w2 ⟨rfl, hb2⟩
      have hb12 := bstep hb1 hb2
      have HZ := Aside0.mk (R_zero kBk 44 w2 w.heap.size (fun _ => True) hb12.size trivial)
      have HB2 := Aside0.mk (balloc hb12 (.cells #[] 44))
      clear hb1 hb2 hb12
      go_wp2_with fail
      go_ret2
      rw [HE.out.1, HE.out.2]
      exact ⟨_, rfl, HB2.out, _, rfl, HZ.out⟩
    · have HE := Aside0.mk (sort_good (O := O) (L := L) (by unfold okSort; rw [h1, h2]; rfl))
      have HN := Aside0.mk (vBooks_len h2)
      have HK := Aside0.mk (ordOk_of hk h1)
      rw [h1] at HV
      rw [h2] at HVB
      clear h1 h2 hO hL hok
      go_enter Tryz.func8, Tryz.ntmps8
      go_wp2_with fail
      refine HV.out.mono ?_; rintro _ w1 ⟨rfl, hb1⟩
      go_wp2_with fail
      refine (HVB.out _ (Kd.C_below HL.out hb1)).mono ?_; rintro _ w2 ⟨rfl, hb2⟩
      have HB2 := Aside0.mk (bstep hb1 hb2)
      clear hb1 hb2
      go_wp2_with fail
      refine (l01Sorted_c A0 A1 c0 c1 O L w2 (Kd.C_below HO.out HB2.out) HK.out (Kd.C_below HL.out HB2.out) HOK.out HN.out).mono ?_; rintro _ w3 ⟨v, rfl, hb3, hv⟩
      have HB3 := Aside0.mk (bstep HB2.out hb3)
      have HV3 := Aside0.mk (show NewBk w (Srt.sortL (ltBy O) L) v w3 from Kd.R_lower hv HB2.out.size)
      clear hb3 hv
      go_wp2_with fail
      go_ret2
      rw [HE.out.1, HE.out.2]
      exact ⟨_, rfl, HB3.out, _, rfl, HV3.out⟩
end Go.Proofs.YtkoaangakmpggaaGreatDoor
end
section
/- slices.Grow and slices.Concat at books; MergeBooks: the program's and the reference's. -/
namespace Go.Proofs.YtkoaangakmpggaaGreatDoor
open Go.RowKit Go.Proofs.YtkoaangakmpggaaGreatDoorW.PrintWords Go.Proofs.YtkoaangakmpggaaGreatDoorW.PrintMore
set_option linter.unusedVariables false
set_option linter.unusedSimpArgs false
set_option maxRecDepth 100000

section
variable {ops : Array Oper} {rest : List Oper} {o : Oper} {a : Act} {Q : Exit → Act → World → Prop}
/-- append(v, make([]impl.Book, n)...). -/
theorem bk_append_zeros {w W : World} (hgd : o.guard = none) (s x : Operand) (ho : o.op = .call { callee := .builtin .append, args := #[s, x], argTypes := #[24, 3] }) (v : Value) (xs : List Bk) (n : Int)
    (hs : a.eval s = v) (hx : a.eval x = .int .i64 n) (HO : kBk.R 44 W w.heap.size (fun _ => True) v xs) (h0 : 0 ≤ n) (HB : Below w.heap.size w W) (hl : xs.length + n.toNat ≤ 2097152)
    (h : ∀ v1 w1, kBk.R 44 w1 w.heap.size (fun _ => True) v1 (xs ++ List.replicate n.toNat zBk) → Below w.heap.size w w1 → wpList Tryz.prog ops Q rest (a.put o.dst v1) w1) :
    wpList Tryz.prog ops Q (o :: rest) a W :=
  Kd.R_append_zeros kBk (w0 := w) w.heap.size hgd s x 24 3 44 (.agg #[.int .i16 0, .int .u8 0, .int .u8 0, .int .u8 0, .int .i16 0, .int .i16 0, .int .i16 0, .int .i16 0]) 14 ho Tryz.underlying24 Tryz.underlying3 info_bk rfl (by decide) (by decide) v xs zBk n (fun _ => True) hs hx rfl (fun _ _ => trivial) HO h0 HB HB.size (by omega)
    (fun v1 w1 h1 h2 _ _ => h v1 w1 h1 h2)
/-- append(v, bs...). -/
theorem bk_append_rows {w W : World} (hgd : o.guard = none) (s x : Operand) (ho : o.op = .call { callee := .builtin .append, args := #[s, x], argTypes := #[24, 24] }) (v : Value) (xs : List Bk) (A : Option Addr) (m c : Nat) (ys : List Bk)
    (hs : a.eval s = v) (hx : a.eval x = .slice A m c) (HO : kBk.R 44 W w.heap.size (fun _ => True) v xs) (HL : kBk.C W A m ys) (HB : Below w.heap.size w W) (hl : xs.length + m ≤ 2097152)
    (h : ∀ v1 w1, kBk.R 44 w1 w.heap.size (fun _ => True) v1 (xs ++ ys) → Below w.heap.size w w1 → wpList Tryz.prog ops Q rest (a.put o.dst v1) w1) :
    wpList Tryz.prog ops Q (o :: rest) a W :=
  Kd.R_append_rows kBk (Rr := kBk.K W) (w0 := w) w.heap.size hgd s x 24 44 (.agg #[.int .i16 0, .int .u8 0, .int .u8 0, .int .u8 0, .int .i16 0, .int .i16 0, .int .i16 0, .int .i16 0]) 14 ho Tryz.underlying24 info_bk rfl (by decide) (by decide) v xs ys A m c (fun _ => True) (fun _ => False) hs hx HO HL (fun x cs h => h) (fun _ h => h.elim) (fun _ _ => trivial) HB HB.size (by omega)
    (fun v1 w1 h1 h2 _ _ => h v1 w1 h1 h2)
end
theorem cut_bk {n : Nat} (A : Option Addr) (c : Nat) (h : n ≤ c) (W : World) : (Instr.slice 24 (.slice A n c) none (some (.int .i64 0)) none).run Tryz.prog W = .ok (.slice A 0 c) W := by
  obtain ⟨i, hi, _⟩ := Option.map_eq_some_iff.1 info_bk
  exact cut_to 24 44 .i64 Tryz.underlying24 hi A n c 0 (by omega) (by omega) h W
theorem cat_len (LL : List SlB) (k : Nat) : ((LL.take k).flatMap SlB.L).length ≤ (LL.flatMap SlB.L).length := by
  have := congrArg (fun M => (List.flatMap SlB.L M).length) (List.take_append_drop k LL)
  simp only [List.flatMap_append, List.length_append] at this
  omega
theorem cat_next {LL : List SlB} {k : Nat} {x : SlB} (h : LL[k]? = some x) : (LL.take (k + 1)).flatMap SlB.L = (LL.take k).flatMap SlB.L ++ x.L := by
  rw [take_snoc h, List.flatMap_append]
  simp
def okMg (L M : List Bk) : Bool := vBooks L && vBooks M
def inMg (L M : List Bk) : Bool := isS L && isS M
def mgE (L M : List Bk) : Int := if okMg L M = true then (if inMg L M = true then (if 60 < L.length + M.length then 3 else 0) else 4) else 1
def mgV (L M : List Bk) : List Bk := if mgE L M = 0 then Srt.sortL (ltBy usualL) (L ++ M) else []
theorem mg_bad {L M : List Bk} {e : Int} (h : mgE L M = e) (he : e ≠ 0) : mgV L M = [] ∧ mgE L M = e := ⟨by unfold mgV; rw [h, if_neg he], h⟩
theorem mg_ok {L M : List Bk} (h : mgE L M = 0) : mgV L M = Srt.sortL (ltBy usualL) (L ++ M) ∧ mgE L M = 0 := ⟨by unfold mgV; rw [h, if_pos rfl], h⟩
theorem mg_valid {L M : List Bk} (h : mgE L M = 0) : vBooks (L ++ M) = true ∧ vBooks L = true ∧ vBooks M = true := by
  unfold mgE at h
  by_cases h1 : okMg L M = true
  · rw [if_pos h1] at h
    by_cases h2 : inMg L M = true
    · rw [if_pos h2] at h
      by_cases h3 : 60 < L.length + M.length
      · rw [if_pos h3] at h; cases h
      · obtain ⟨h4, h5⟩ := Bool.and_eq_true_iff.1 h1
        refine ⟨?_, h4, h5⟩
        unfold vBooks at h4 h5 ⊢
        obtain ⟨_, h6⟩ := Bool.and_eq_true_iff.1 h4
        obtain ⟨_, h7⟩ := Bool.and_eq_true_iff.1 h5
        rw [List.all_append, h6, h7, List.length_append, decide_eq_true (by omega)]
        rfl
    · rw [if_neg h2] at h; cases h
  · rw [if_neg h1] at h; cases h
theorem mgV_len (L M : List Bk) : (mgV L M).length ≤ 2097152 := by
  unfold mgV
  split
  · rename_i h
    have := vBooks_len (mg_valid h).1
    rw [sortL_len (ltBy_wk usualL)]
    omega
  · simp
theorem okSort_usual {L : List Bk} (h : vBooks L = true) : sortV usualL L = Srt.sortL (ltBy usualL) L ∧ sortE usualL L = 0 := sort_good (by unfold okSort; rw [h, Bool.and_true]; decide)
theorem sCodes_two (x y : SlB) : sCodes [x, y] = if okMg x.L y.L = true then (if inMg x.L y.L = true then 0 else 4) else 1 := by simp [sCodes, okMg, inMg]
theorem sortU_c (g : Nat) (A1 : Option Addr) (c1 : Nat) (L R : List Bk) (e : Int) (hR : sortV usualL L = R) (he : sortE usualL L = e) (w : World) (hO : (Kd.int .i8).C w (some ⟨g, 0, none⟩) usualL.length usualL) (hL : kBk.C w A1 L.length L) :
    Calls Tryz.prog 7 #[.slice (some ⟨g, 0, none⟩) 3 3, .slice A1 L.length c1] w (RetQ w (TupB w R e)) := by
  subst hR he
  exact SortBooks_c (some ⟨g, 0, none⟩) A1 3 c1 usualL L w hO usualL_ok hL
theorem sortedU_c (g : Nat) (A1 : Option Addr) (c1 : Nat) (L : List Bk) (w : World) (hO : (Kd.int .i8).C w (some ⟨g, 0, none⟩) usualL.length usualL) (hL : kBk.C w A1 L.length L) (hok : OkL L) (hn : L.length ≤ 60) :
    Calls Tryz.prog 38 #[.slice (some ⟨g, 0, none⟩) 3 3, .slice A1 L.length c1] w (RetQ w (NewBk w (Srt.sortL (ltBy usualL) L))) :=
  l01Sorted_c (some ⟨g, 0, none⟩) A1 3 c1 usualL L w hO usualL_ord hL hok hn
end Go.Proofs.YtkoaangakmpggaaGreatDoor
end
section
/- PairsOut: the program's and the reference's. -/
namespace Go.Proofs.YtkoaangakmpggaaGreatDoor
open Go.RowKit Go.Proofs.YtkoaangakmpggaaGreatDoorW.PrintWords Go.Proofs.YtkoaangakmpggaaGreatDoorW.PrintMore
set_option linter.unusedVariables false
set_option linter.unusedSimpArgs false
set_option maxRecDepth 100000

def pairsV (L : List Bk) : Int := if vBooks L = true then pairsL L else 0
theorem pairsN_60 {L : List Bk} {k : Nat} (h : L.length ≤ 60) (hk : k ≤ L.length) : pairsN L k ≤ 3600 := by
  have h1 := pairsN_le L k
  have h2 : L.length * k ≤ 60 * 60 := Nat.mul_le_mul h (by omega)
  omega
set_option maxHeartbeats 4000000 in
theorem specPairsOut_c (A : Option Addr) (c : Nat) (L : List Bk) (hok : OkL L) (w : World) (hL : kBk.C w A L.length L) : Calls Tryz.prog 12 #[.slice A L.length c] w (Ret w (.tuple #[.int .i64 (pairsV L), .int .i64 (eV L)])) := by
  have HL := Aside0.mk hL
  have HO := Aside0.mk hok
  have HV := Aside0.mk (l01Ok_c A c L hok w hL)
  have hm := Kd.C_max hL
  clear hL hok
  cases h : vBooks L
  · rw [h] at HV
    have HE := Aside0.mk (show pairsV L = 0 ∧ eV L = 1 by unfold pairsV eV; rw [h]; exact ⟨rfl, rfl⟩)
    clear h
    go_enter Tryz.func12, Tryz.ntmps12
    go_wp2_with fail
    refine HV.out.mono ?_; rintro _ w1 ⟨rfl, hb1⟩
    go_wp2_with fail
    go_ret2
    exact ⟨ret_two HE.out.1.symm HE.out.2.symm, hb1⟩
  · rw [h] at HV
    have hn := vBooks_len h
    have HE := Aside0.mk (show pairsV L = pairsL L ∧ eV L = 0 by unfold pairsV eV; rw [h]; exact ⟨rfl, rfl⟩)
    clear h
    go_enter Tryz.func12, Tryz.ntmps12
    go_wp2_with fail
    refine HV.out.mono ?_; rintro _ w1 ⟨rfl, hb1⟩
    have HB1 := Aside0.mk hb1
    clear hb1 HV
    go_wp2_with fail
    go_loopg [4, 5, 6] L.length (fun gk v4 v5 v6 wr => ∃ k : Nat, k + gk = L.length ∧ v4 = .int .i64 (pairsN L k : Nat) ∧ v5 = .int .i64 (k : Int) ∧ Aside0 (Below w.heap.size w wr))
    case atStart => exact ⟨0, by omega, rfl, rfl, HB1⟩
    case round =>
      obtain ⟨k, hk, rfl, rfl, HB⟩ := hrel
      have HK := Aside0.mk hk
      by_cases hlt : k < L.length
      · obtain ⟨ad, b, rfl, hbk, hx⟩ := at_bk' (Kd.C_below HL.out HB.out) k hlt
        have HX := Aside0.mk hx
        have HP := Aside0.mk (pairsN_next hbk.out)
        have hp60 := pairsN_60 hn (show k ≤ L.length by omega)
        have i1 : (0 : Int) ≤ (k : Int) := by omega
        have i2 : (k : Int) < (L.length : Int) := by omega
        obtain ⟨P, hP⟩ : ∃ P, pairsN L k = P := ⟨_, rfl⟩
        rw [hP] at HP hp60 ⊢
        clear hk hx hP
        obtain ⟨wo, rfl⟩ : ∃ wo : World, wo = wr := ⟨_, rfl⟩
        obtain ⟨gO, rfl⟩ : ∃ g : Nat, g = gk := ⟨_, rfl⟩
        go_wp2_with fail
        go_loopg [4, 6] k (fun gj u4 u6 wq => ∃ j : Nat, j + gj = k ∧ u4 = .int .i64 ((P + lowIn b (L.take j) : Nat) : Int) ∧ u6 = .int .i64 (j : Int) ∧ Aside0 (Below wo.heap.size wo wq))
        case atStart => exact ⟨0, by omega, by simp [lowIn], rfl, ⟨Below.refl _ _⟩⟩
        case round =>
          obtain ⟨j, hj, rfl, rfl, HBj⟩ := hrel
          have HJ := Aside0.mk hj
          by_cases hltj : j < k
          · obtain ⟨ad', b', e', hbk', hy⟩ := at_bk' (Kd.C_below HL.out (bstep HB.out HBj.out)) j (by omega)
            injection e' with e'
            subst e'
            have HU := Aside0.mk (l01Usual_c _ _ b b' (HO.out b (mem_of hbk.out)) (HO.out b' (mem_of hbk'.out)) wr.drew ((HX.out.below HBj.out).below (bdrew (Below.refl _ _))) (hy.below (bdrew (Below.refl _ _))))
            have hlow := lowIn_le b (L.take j)
            have hlt2 : (L.take j).length ≤ j := by rw [List.length_take]; omega
            have HLY := Aside0.mk (fun h => lowIn_yes (b := b) hbk'.out h)
            have HLN := Aside0.mk (fun h => lowIn_no (b := b) hbk'.out h)
            obtain ⟨q, hq⟩ : ∃ q, lowIn b (L.take j) = q := ⟨_, rfl⟩
            rw [hq] at HLY HLN hlow ⊢
            have hq60 : q ≤ 60 := by omega
            have j1 : (0 : Int) ≤ (j : Int) := by omega
            have j2 : (j : Int) < (L.length : Int) := by omega
            have j3 : (j : Int) < (k : Int) := by omega
            have HQ := Aside0.mk hq
            clear hj hy hq hlow hlt2
            go_wp2_with fail
            go_still_tail 6, (by kernel_rfl)
            go_wp2_with fail
            refine HU.out.mono ?_; rintro _ w2 ⟨rfl, hb2⟩
            have HB2 := Aside0.mk (bstep (bdrew HBj.out) hb2)
            clear hb2
            by_cases hc : cmpU b b' < 0
            · have HS := Aside0.mk (HLY.out hc)
              go_wp2
              go_roundg (gk - 1)
              case measure => have := HJ.out; omega
              case rel => exact ⟨j + 1, by have := HJ.out; omega, by rw [HS.out]; go_num, by go_num, HB2⟩
            · have HS := Aside0.mk (HLN.out (by omega))
              go_wp2
              go_roundg (gk - 1)
              case measure => have := HJ.out; omega
              case rel => exact ⟨j + 1, by have := HJ.out; omega, by rw [HS.out]; go_num, by go_num, HB2⟩
          · have hjk : j = k := by omega
            have HS := Aside0.mk (show pairsN L (k + 1) = P + lowIn b (L.take j) by rw [HP.out, hjk])
            have j3 : (k : Int) ≤ (j : Int) := by omega
            clear hj hjk
            go_wp2
            go_roundg (gO - 1)
            case measure => have := HK.out; omega
            case rel => exact ⟨k + 1, by have := HK.out; omega, by rw [HS.out], by go_num, ⟨bstep HB.out HBj.out⟩⟩
      · have HF := Aside0.mk (show pairsL L = (pairsN L k : Nat) by unfold pairsL; rw [show k = L.length by omega])
        have j4 : (L.length : Int) ≤ (k : Int) := by omega
        clear hk
        go_wp2
        go_ret2
        exact ⟨ret_two (by rw [HE.out.1, HF.out]) HE.out.2.symm, HB.out⟩
set_option maxHeartbeats 4000000 in
theorem PairsOut_c (A : Option Addr) (c : Nat) (L : List Bk) (hlc : L.length ≤ c) (w : World) (hL : kBk.C w A L.length L) : Calls Tryz.prog 11 #[.slice A L.length c] w (Ret w (.tuple #[.int .i64 (pairsV L), .int .i64 (eV L)])) := by
  have HL := Aside0.mk hL
  have HV := Aside0.mk (ValidBooks_c A c L w hL)
  have hm := Kd.C_max hL
  have HC := Aside0.mk (fun x y W => compare_c x y W)
  simp only [Bk.val] at HC
  clear hL
  cases h : vBooks L
  · rw [h] at HV
    have HE := Aside0.mk (show pairsV L = 0 ∧ eV L = 1 by unfold pairsV eV; rw [h]; exact ⟨rfl, rfl⟩)
    clear h
    go_enter Tryz.func11, Tryz.ntmps11
    go_wp2_with fail
    refine HV.out.mono ?_; rintro _ w1 ⟨rfl, hb1⟩
    go_wp2_with fail
    go_ret2
    exact ⟨ret_two HE.out.1.symm HE.out.2.symm, hb1⟩
  · rw [h] at HV
    have hn := vBooks_len h
    have HE := Aside0.mk (show pairsV L = pairsL L ∧ eV L = 0 by unfold pairsV eV; rw [h]; exact ⟨rfl, rfl⟩)
    clear h
    go_enter Tryz.func11, Tryz.ntmps11
    go_wp2_with fail
    refine HV.out.mono ?_; rintro _ w1 ⟨rfl, hb1⟩
    have HB1 := Aside0.mk hb1
    clear hb1 HV
    go_wp2_with fail
    go_loopg [4, 14] L.length (fun gk v4 v5 wr => ∃ k : Nat, k + gk = L.length ∧ v4 = .int .i64 (pairsN L k : Nat) ∧ v5 = .int .i64 (k : Int) ∧ Aside0 (Below w.heap.size w wr))
    case atStart => exact ⟨0, by omega, rfl, rfl, HB1⟩
    case round =>
      obtain ⟨k, hk, rfl, rfl, HB⟩ := hrel
      have HK := Aside0.mk hk
      by_cases hlt : k < L.length
      · obtain ⟨ad, b, rfl, hbk, x0, x1, x2, x3, x4, x5, x6, x7⟩ := at_bk (Kd.C_below HL.out HB.out) k hlt
        have HP := Aside0.mk (pairsN_next hbk.out)
        have hp60 := pairsN_60 hn (show k ≤ L.length by omega)
        have i1 : (0 : Int) ≤ (k : Int) := by omega
        have i2 : (k : Int) < (L.length : Int) := by omega
        have i3 : k ≤ c := by omega
        have i4 : (k : Int) ≤ (c : Int) := by omega
        obtain ⟨P, hP⟩ : ∃ P, pairsN L k = P := ⟨_, rfl⟩
        rw [hP] at HP hp60 ⊢
        clear hk hP
        obtain ⟨wo, rfl⟩ : ∃ wo : World, wo = wr := ⟨_, rfl⟩
        obtain ⟨gO, rfl⟩ : ∃ g : Nat, g = gk := ⟨_, rfl⟩
        go_wp2_with fail
        have HX := Aside0.mk (BkAt.box wo b 44)
        have HB2 := Aside0.mk (balloc HB.out (.cells #[.int .i16 b.c, .int .u8 b.m0, .int .u8 b.m1, .int .u8 b.m2, .int .i16 b.v, .int .i16 b.wd, .int .i16 b.h, .int .i16 b.wt] 44))
        have HS := Aside0.mk (show (wo.alloc (.cells #[.int .i16 b.c, .int .u8 b.m0, .int .u8 b.m1, .int .u8 b.m2, .int .i16 b.v, .int .i16 b.wd, .int .i16 b.h, .int .i16 b.wt] 44)).heap.size = wo.heap.size + 1 by simp)
        clear x0 x1 x2 x3 x4 x5 x6 x7
        generalize hW1 : World.alloc wo _ = W1 at HX HB2 HS ⊢
        clear hW1
        go_loopg [4, 23] k (fun gk u4 u6 wq => ∃ j : Nat, j + gk = k ∧ u4 = .int .i64 ((P + lowIn b (L.take j) : Nat) : Int) ∧ u6 = .int .i64 (j : Int) ∧ Aside0 (Below W1.heap.size W1 wq))
        case atStart => exact ⟨0, by omega, by simp [lowIn], rfl, ⟨Below.refl _ _⟩⟩
        case round =>
          obtain ⟨j, hj, rfl, rfl, HBj⟩ := hrel
          have HJ := Aside0.mk hj
          by_cases hltj : j < k
          · obtain ⟨ad', b', e', hbk', y0, y1, y2, y3, y4, y5, y6, y7⟩ := at_bk (Kd.C_below HL.out (bstep HB2.out HBj.out)) j (by omega)
            injection e' with e'
            subst e'
            have hlow := lowIn_le b (L.take j)
            have hlt2 : (L.take j).length ≤ j := by rw [List.length_take]; omega
            have HLY := Aside0.mk (fun h => lowIn_yes (b := b) hbk'.out h)
            have HLN := Aside0.mk (fun h => lowIn_no (b := b) hbk'.out h)
            obtain ⟨q, hq⟩ : ∃ q, lowIn b (L.take j) = q := ⟨_, rfl⟩
            rw [hq] at HLY HLN hlow ⊢
            have hq60 : q ≤ 60 := by omega
            have j1 : (0 : Int) ≤ (j : Int) := by omega
            have j2 : (j : Int) < (L.length : Int) := by omega
            have j3 : (j : Int) < (k : Int) := by omega
            have HQ := Aside0.mk hq
            obtain ⟨z0, z1, z2, z3, z4, z5, z6, z7⟩ := (HX.out.below HBj.out)
            have hne : wo.heap.size < wr.heap.size := by have := HBj.out.size; have := HS.out; omega
            clear hj hq hlow hlt2
            go_wp2_with fail
            refine (HC.out b b' _).mono ?_; rintro _ w2 ⟨rfl, hb2⟩
            have HBn := Aside0.mk (bstep (balloc HBj.out (.cells #[.int .i16 b'.c, .int .u8 b'.m0, .int .u8 b'.m1, .int .u8 b'.m2, .int .i16 b'.v, .int .i16 b'.wd, .int .i16 b'.h, .int .i16 b'.wt] 44)) hb2)
            clear hb2 y0 y1 y2 y3 y4 y5 y6 y7 z0 z1 z2 z3 z4 z5 z6 z7
            by_cases hc : cmpU b b' < 0
            · have HS2 := Aside0.mk (HLY.out hc)
              go_wp2
              go_roundg (gk - 1)
              case measure => have := HJ.out; omega
              case rel => exact ⟨j + 1, by have := HJ.out; omega, by rw [HS2.out]; go_num, by go_num, HBn⟩
            · have HS2 := Aside0.mk (HLN.out (by omega))
              go_wp2
              go_roundg (gk - 1)
              case measure => have := HJ.out; omega
              case rel => exact ⟨j + 1, by have := HJ.out; omega, by rw [HS2.out]; go_num, by go_num, HBn⟩
          · have hjk : j = k := by omega
            have HS2 := Aside0.mk (show pairsN L (k + 1) = P + lowIn b (L.take j) by rw [HP.out, hjk])
            have j3 : (k : Int) ≤ (j : Int) := by omega
            clear hj hjk
            go_wp2
            go_roundg (gO - 1)
            case measure => have := HK.out; omega
            case rel => exact ⟨k + 1, by have := HK.out; omega, by rw [HS2.out], by go_num, ⟨bstep HB2.out HBj.out⟩⟩
      · have HF := Aside0.mk (show pairsL L = (pairsN L k : Nat) by unfold pairsL; rw [show k = L.length by omega])
        have j4 : (L.length : Int) ≤ (k : Int) := by omega
        clear hk
        go_wp2
        go_ret2
        exact ⟨ret_two (by rw [HE.out.1, HF.out]) HE.out.2.symm, HB.out⟩
end Go.Proofs.YtkoaangakmpggaaGreatDoor
end
section
/- LongestRun: the program's and the reference's. -/
namespace Go.Proofs.YtkoaangakmpggaaGreatDoor
open Go.RowKit Go.Proofs.YtkoaangakmpggaaGreatDoorW.PrintWords Go.Proofs.YtkoaangakmpggaaGreatDoorW.PrintMore
set_option linter.unusedVariables false
set_option linter.unusedSimpArgs false
set_option maxRecDepth 100000

def longF (L : List Bk) : Int := if vBooks L = true ∧ L.length ≠ 0 then (longest L).1 else 0
def longM (L : List Bk) : Int := if vBooks L = true ∧ L.length ≠ 0 then (longest L).2 else 0
def longE (L : List Bk) : Int := if vBooks L = true then (if L.length = 0 then 6 else 0) else 1
theorem long_bad {L : List Bk} (h : vBooks L = false) : longF L = 0 ∧ longM L = 0 ∧ longE L = 1 := by
  unfold longF longM longE; rw [h]; simp
theorem long_none {L : List Bk} (h : vBooks L = true) (h0 : L.length = 0) : longF L = 0 ∧ longM L = 0 ∧ longE L = 6 := by
  unfold longF longM longE; rw [h]; simp [h0]
theorem long_some {L : List Bk} (h : vBooks L = true) (h0 : L.length ≠ 0) : longF L = (longest L).1 ∧ longM L = (longest L).2 ∧ longE L = 0 := by
  unfold longF longM longE; rw [h]; simp [h0]
theorem own_bound {L : List Bk} (h : L.length ≤ 60) : ∀ x ∈ runsL L ++ [(L.length : Int)], 0 ≤ x ∧ x ≤ 60 := by
  intro x hx
  rcases List.mem_append.1 hx with hx | hx
  · have := runsN_mem hx; omega
  · rw [List.mem_singleton.1 hx]; omega
theorem wrap_sub {a b : Int} (ha : 0 ≤ a ∧ a ≤ 60) (hb : 0 ≤ b ∧ b ≤ 60) : IntKind.i64.wrap (b - a) = b - a := by
  simp only [IntKind.wrap, IntKind.bits, IntKind.signed, Bool.true_and, decide_eq_true_eq, ge_iff_le]; split <;> omega
theorem wrap_small {a : Int} (h : -1000000000 ≤ a ∧ a ≤ 1000000000) : IntKind.i64.wrap a = a := by
  simp only [IntKind.wrap, IntKind.bits, IntKind.signed, Bool.true_and, decide_eq_true_eq, ge_iff_le]; split <;> omega
theorem add_succ (ad : Addr) (k : Nat) : ad.add (k + 1) = ⟨ad.block, ad.off + (k + 1), none⟩ := by simp [Addr.add]
set_option maxHeartbeats 4000000 in
theorem LongestRun_c (A : Option Addr) (c : Nat) (L : List Bk) (w : World) (hL : kBk.C w A L.length L) : Calls Tryz.prog 25 #[.slice A L.length c] w (Ret w (.tuple #[.int .i64 (longF L), .int .i64 (longM L), .int .i64 (longE L)])) := by
  have HL := Aside0.mk hL
  have HV := Aside0.mk (ValidBooks_c A c L w hL)
  have hm := Kd.C_max hL
  clear hL
  cases h : vBooks L
  · rw [h] at HV
    have HE := Aside0.mk (long_bad h)
    clear h
    go_enter Tryz.func25, Tryz.ntmps25
    go_wp2_with fail
    refine HV.out.mono ?_; rintro _ w1 ⟨rfl, hb1⟩
    go_wp2_with fail
    go_ret3
    exact ⟨ret_three HE.out.1.symm HE.out.2.1.symm HE.out.2.2.symm, hb1⟩
  · rw [h] at HV
    have HN := Aside0.mk (vBooks_len h)
    by_cases h0 : L.length = 0
    · have HE := Aside0.mk (long_none h h0)
      have hq : ((L.length : Int) == 0) = true := by simp [h0]
      clear h h0
      go_enter Tryz.func25, Tryz.ntmps25
      go_wp2_with fail
      refine HV.out.mono ?_; rintro _ w1 ⟨rfl, hb1⟩
      go_wp2_with fail
      go_ret3
      exact ⟨ret_three HE.out.1.symm HE.out.2.1.symm HE.out.2.2.symm, hb1⟩
    · have HE := Aside0.mk (long_some h h0)
      have hq : ((L.length : Int) == 0) = false := by simpa using h0
      have HOB := Aside0.mk (own_bound (vBooks_len h))
      have HRL := Aside0.mk (runsN_len L L.length)
      clear h h0
      go_enter Tryz.func25, Tryz.ntmps25
      go_wp2_with fail
      refine HV.out.mono ?_; rintro _ w1 ⟨rfl, hb1⟩
      have HB1 := Aside0.mk hb1
      go_wp2_with fail
      refine (runs_c A c L w1 (Kd.C_below HL.out hb1) HN.out).mono ?_; rintro _ w2 ⟨v, rfl, hb2, hv⟩
      have HB2 := Aside0.mk (bstep hb1 hb2)
      have HR2 := Aside0.mk (show NewI w (runsL L) v w2 from Kd.R_lower hv hb1.size)
      clear hb1 hb2 hv
      go_wp2_with (at_builtin; refine i64_append (w := w) rfl (.tmp 19) (.tmp 22) rfl _ (runsL L) (L.length : Int) rfl rfl HR2.out HB2.out (by have := HRL.out; have := HN.out; unfold runsL; omega) ?_; intro v1 w3 hR1 hB1 _; have HR3 := Aside0.mk hR1; have HB3 := Aside0.mk hB1; clear hR1 hB1)
      obtain ⟨O, hO⟩ : ∃ O, runsL L ++ [(L.length : Int)] = O := ⟨_, rfl⟩
      obtain ⟨m, hml⟩ : ∃ m, (runsL L).length = m := ⟨_, rfl⟩
      have HOl := Aside0.mk (show O.length = m + 1 by rw [← hO, ← hml]; simp)
      have HLO := Aside0.mk (show longest L = gapN O m by unfold longest; rw [hO, hml])
      rw [hO] at HR3 HOB
      have hnew := (show NewI w O v1 w3 from HR3.out).open
      obtain ⟨X, d, rfl, ld, CX⟩ := hnew
      have HM := Aside0.mk (show m ≤ 60 by have := HRL.out; have := HN.out; rw [← hml]; unfold runsL; omega)
      clear hO hml HR3 HR2 HV HL HB1 HB2 HRL hq ld
      have hOl : O.length = m + 1 := HOl.out
      rw [hOl] at CX ⊢
      clear hOl
      go_loopg [6, 7, 8] m (fun gk v6 v7 v8 wr => ∃ k : Nat, k + gk = m ∧ v6 = .int .i64 (gapN O k).1 ∧ v7 = .int .i64 (gapN O k).2 ∧ v8 = .int .i64 ((k : Int) + 1) ∧ Aside0 (Below w3.heap.size w3 wr))
      case atStart => exact ⟨0, by omega, rfl, rfl, rfl, ⟨Below.refl _ _⟩⟩
      case round =>
        obtain ⟨k, hk, rfl, rfl, rfl, HB⟩ := hrel
        have HK := Aside0.mk hk
        have hG := gapN_bound HOB.out (by decide) k
        by_cases hlt : k < m
        · have hCX := Kd.C_below CX.out HB.out
          obtain ⟨ad, a, rfl, ha, hca⟩ := at_int' hCX k (by omega)
          obtain ⟨ad', b, e', hb, hcb⟩ := at_int' hCX (k + 1) (by omega)
          injection e' with e'
          subst e'
          rw [add_succ] at hcb
          have HN2 := Aside0.mk (gapN_next ha.out hb.out)
          have ba := HOB.out a (mem_of ha.out)
          have bb := HOB.out b (mem_of hb.out)
          have q1 := wrap_sub ba bb
          have q2 := wrap_small (a := (k : Int)) (by have := HM.out; omega)
          have j1 : (0 : Int) ≤ (k : Int) := by omega
          have j2 : (k : Int) < (m : Int) := by omega
          have j3 : (k : Int) < (m : Int) + 1 := by omega
          have j4 : (0 : Int) ≤ (k : Int) + 1 := by omega
          have j5 : ((k : Int) + 1).toNat = k + 1 := by omega
          have j6 : (m : Int) ≤ 60 := by have := HM.out; omega
          obtain ⟨p, hp⟩ : ∃ p, gapN O k = p := ⟨_, rfl⟩
          rw [hp] at hG HN2 ⊢
          obtain ⟨f, s⟩ := p
          simp only at hG HN2 ⊢
          obtain ⟨g1, g2, g3, g4⟩ := hG
          clear hk hCX hp ha hb
          by_cases hc : s < b - a
          · rw [if_pos hc] at HN2
            go_wp2_with fail
            go_quiet (fail)
            go_wp2
            go_roundg (gk - 1)
            case measure => have := HK.out; omega
            case rel => exact ⟨k + 1, by have := HK.out; omega, by rw [HN2.out], by rw [HN2.out], by go_num, ⟨bdrewN HB.out _⟩⟩
          · rw [if_neg hc] at HN2
            go_wp2_with fail
            go_quiet (fail)
            go_wp2
            go_roundg (gk - 1)
            case measure => have := HK.out; omega
            case rel => exact ⟨k + 1, by have := HK.out; omega, by rw [HN2.out], by rw [HN2.out], by go_num, ⟨bdrewN HB.out _⟩⟩
        · have HF := Aside0.mk (show longest L = gapN O k by rw [HLO.out, show k = m by omega])
          have j2 : ¬ (k : Int) + 1 < (m : Int) + 1 := by omega
          have j3 : (m : Int) + 1 ≤ (k : Int) + 1 := by omega
          have j4 : (m : Int) ≤ (k : Int) := by omega
          clear hk
          go_wp2
          go_ret3
          exact ⟨ret_three (by rw [HE.out.1, HF.out]) (by rw [HE.out.2.1, HF.out]) HE.out.2.2.symm, bstep HB3.out HB.out⟩
set_option maxHeartbeats 4000000 in
theorem specLongestRun_c (A : Option Addr) (c : Nat) (L : List Bk) (hok : OkL L) (w : World) (hL : kBk.C w A L.length L) : Calls Tryz.prog 26 #[.slice A L.length c] w (Ret w (.tuple #[.int .i64 (longF L), .int .i64 (longM L), .int .i64 (longE L)])) := by
  have HL := Aside0.mk hL
  have HO := Aside0.mk hok
  have HV := Aside0.mk (l01Ok_c A c L hok w hL)
  have hm := Kd.C_max hL
  clear hL hok
  cases h : vBooks L
  · rw [h] at HV
    have HE := Aside0.mk (long_bad h)
    clear h
    go_enter Tryz.func26, Tryz.ntmps26
    go_wp2_with fail
    refine HV.out.mono ?_; rintro _ w1 ⟨rfl, hb1⟩
    go_wp2_with fail
    go_ret3
    exact ⟨ret_three HE.out.1.symm HE.out.2.1.symm HE.out.2.2.symm, hb1⟩
  · rw [h] at HV
    have HN := Aside0.mk (vBooks_len h)
    by_cases h0 : L.length = 0
    · have HE := Aside0.mk (long_none h h0)
      have hq : ((L.length : Int) == 0) = true := by simp [h0]
      clear h h0
      go_enter Tryz.func26, Tryz.ntmps26
      go_wp2_with fail
      refine HV.out.mono ?_; rintro _ w1 ⟨rfl, hb1⟩
      go_wp2_with fail
      go_ret3
      exact ⟨ret_three HE.out.1.symm HE.out.2.1.symm HE.out.2.2.symm, hb1⟩
    · have HE := Aside0.mk (long_some h h0)
      have hq : ((L.length : Int) == 0) = false := by simpa using h0
      have HOB := Aside0.mk (own_bound (vBooks_len h))
      have HRL := Aside0.mk (runsN_len L L.length)
      clear h h0
      go_enter Tryz.func26, Tryz.ntmps26
      go_wp2_with fail
      refine HV.out.mono ?_; rintro _ w1 ⟨rfl, hb1⟩
      go_wp2_with fail
      refine (l01Runs_c A c L w1 (Kd.C_below HL.out hb1) HO.out HN.out).mono ?_; rintro _ w2 ⟨v, rfl, hb2, hv⟩
      have HB2 := Aside0.mk (bstep hb1 hb2)
      obtain ⟨X, d, rfl, ld, CX⟩ := hv.open
      clear hb1 hb2 hv
      obtain ⟨O, hO⟩ : ∃ O, runsL L ++ [(L.length : Int)] = O := ⟨_, rfl⟩
      obtain ⟨R, hR⟩ : ∃ R, runsL L = R := ⟨_, rfl⟩
      have HLO := Aside0.mk (show longest L = gapN O R.length by unfold longest; rw [hO, hR])
      have HM := Aside0.mk (show R.length ≤ 60 by have := HRL.out; have := HN.out; rw [← hR]; unfold runsL; omega)
      rw [hO] at HOB
      rw [hR] at CX hO ⊢
      have hCm := Kd.C_max CX.out
      have HOO := Aside0.mk hO
      have HN' := Aside0.mk HN.out
      clear hR hO HV HL HRL hq ld
      go_wp2_with fail
      go_loopg [6, 7, 8] R.length (fun gk v6 v7 v8 wr => ∃ k : Nat, k + gk = R.length ∧ v6 = .int .i64 (gapN O k).1 ∧ v7 = .int .i64 (gapN O k).2 ∧ v8 = .int .i64 (k : Int) ∧ Aside0 (Below w2.heap.size w2 wr))
      case atStart => exact ⟨0, by omega, rfl, rfl, rfl, ⟨Below.refl _ _⟩⟩
      case round =>
        obtain ⟨k, hk, rfl, rfl, rfl, HB⟩ := hrel
        have HK := Aside0.mk hk
        have hG := gapN_bound HOB.out (by decide) k
        by_cases hlt : k < R.length
        · have hCX := Kd.C_below CX.out HB.out
          obtain ⟨ad, a, rfl, ha, hca⟩ := at_int' hCX k hlt
          have hOa : O[k]? = some a := by rw [← HOO.out, List.getElem?_append_left hlt]; exact ha.out
          have ba := HOB.out a (mem_of hOa)
          have j1 : (0 : Int) ≤ (k : Int) := by omega
          have j6 : (R.length : Int) ≤ 60 := by have := HM.out; omega
          have j7 : (L.length : Int) ≤ 60 := by have := HN'.out; omega
          have j8 : (0 : Int) ≤ (L.length : Int) := by omega
          obtain ⟨p, hp⟩ : ∃ p, gapN O k = p := ⟨_, rfl⟩
          by_cases hlast : k + 1 < R.length
          · obtain ⟨ad', b, e', hb, hcb⟩ := at_int' hCX (k + 1) hlast
            injection e' with e'
            subst e'
            rw [add_succ] at hcb
            have hOb : O[k + 1]? = some b := by rw [← HOO.out, List.getElem?_append_left hlast]; exact hb.out
            have HN2 := Aside0.mk (gapN_next hOa hOb)
            have bb := HOB.out b (mem_of hOb)
            have j2 : (k : Int) + 1 < (R.length : Int) := by omega
            have j5 : ((k : Int) + 1).toNat = k + 1 := by omega
            rw [hp] at hG HN2 ⊢
            obtain ⟨f, s⟩ := p
            simp only at hG HN2 ⊢
            obtain ⟨g1, g2, g3, g4⟩ := hG
            clear hk hCX hp ha hb hOa hOb
            by_cases hc : s < b - a
            · rw [if_pos hc] at HN2
              go_wp2
              go_roundg (gk - 1)
              case measure => have := HK.out; omega
              case rel => exact ⟨k + 1, by have := HK.out; omega, by rw [HN2.out], by rw [HN2.out], by go_num, HB⟩
            · rw [if_neg hc] at HN2
              go_wp2
              go_roundg (gk - 1)
              case measure => have := HK.out; omega
              case rel => exact ⟨k + 1, by have := HK.out; omega, by rw [HN2.out], by rw [HN2.out], by go_num, HB⟩
          · have hOb : O[k + 1]? = some (L.length : Int) := by rw [← HOO.out, List.getElem?_append_right (by omega), show k + 1 - R.length = 0 by omega]; rfl
            have HN2 := Aside0.mk (gapN_next hOa hOb)
            have j2 : ¬ (k : Int) + 1 < (R.length : Int) := by omega
            rw [hp] at hG HN2 ⊢
            obtain ⟨f, s⟩ := p
            simp only at hG HN2 ⊢
            obtain ⟨g1, g2, g3, g4⟩ := hG
            clear hk hCX hp ha hOa hOb
            by_cases hc : s < (L.length : Int) - a
            · rw [if_pos hc] at HN2
              go_wp2
              go_roundg (gk - 1)
              case measure => have := HK.out; omega
              case rel => exact ⟨k + 1, by have := HK.out; omega, by rw [HN2.out], by rw [HN2.out], by go_num, HB⟩
            · rw [if_neg hc] at HN2
              go_wp2
              go_roundg (gk - 1)
              case measure => have := HK.out; omega
              case rel => exact ⟨k + 1, by have := HK.out; omega, by rw [HN2.out], by rw [HN2.out], by go_num, HB⟩
        · have HF := Aside0.mk (show longest L = gapN O k by rw [HLO.out, show k = R.length by omega])
          have j4 : (R.length : Int) ≤ (k : Int) := by omega
          clear hk
          go_wp2
          go_ret3
          exact ⟨ret_three (by rw [HE.out.1, HF.out]) (by rw [HE.out.2.1, HF.out]) HE.out.2.2.symm, bstep HB2.out HB.out⟩
end Go.Proofs.YtkoaangakmpggaaGreatDoor
end
section
/- The totals of a row of books: the program's totals. -/
namespace Go.Proofs.YtkoaangakmpggaaGreatDoor
open Go.RowKit Go.Proofs.YtkoaangakmpggaaGreatDoorW.PrintWords Go.Proofs.YtkoaangakmpggaaGreatDoorW.PrintMore
set_option linter.unusedVariables false
set_option linter.unusedSimpArgs false
set_option maxRecDepth 100000

structure T3 where
  x : Int
  y : Int
  z : Int
def mx (x y : Int) : Int := if x < y then y else x
def T3.step (t : T3) (b : Bk) : T3 := ⟨wrap64 (t.x + b.wd), mx t.y b.h, wrap64 (t.z + b.wt)⟩
def T3.cells (t : T3) : Array Value := #[.int .i64 t.x, .int .i64 t.y, .int .i64 t.z]
def totL (L : List Bk) : T3 := L.foldl T3.step ⟨0, 0, 0⟩
theorem totL_next {L : List Bk} {k : Nat} {b : Bk} (h : L[k]? = some b) : totL (L.take (k + 1)) = (totL (L.take k)).step b := by
  unfold totL
  rw [take_snoc h, List.foldl_append]
  rfl
/-- A store of three numbers into a block of three. -/
theorem put3 {w : World} {g : Nat} {cs : Array Value} {t : TypeId} (h : w.heap[g]? = some (.cells cs t (0, 0))) (hs : cs.size = 3) (a b c : Value) :
    (((w.setCell ⟨g, 0, none⟩ a).setCell ⟨g, 1, none⟩ b).setCell ⟨g, 2, none⟩ c).heap[g]? = some (.cells #[a, b, c] t (0, 0)) := by
  obtain ⟨l⟩ := cs
  match l, hs with
  | [x, y, z], _ => exact blk_put (blk_put (blk_put h 0 a rfl) 1 b rfl) 2 c rfl
theorem below3 {B : Nat} {w0 w : World} (h : Below B w0 w) {g : Nat} (hg : B ≤ g) (a b c : Value) : Below B w0 (((w.setCell ⟨g, 0, none⟩ a).setCell ⟨g, 1, none⟩ b).setCell ⟨g, 2, none⟩ c) :=
  Below.setCell (Below.setCell (Below.setCell h (p := ⟨g, 0, none⟩) hg a) (p := ⟨g, 1, none⟩) hg b) (p := ⟨g, 2, none⟩) hg c
end Go.Proofs.YtkoaangakmpggaaGreatDoor
end
section
/- The totals of a row of books: the program's. -/
namespace Go.Proofs.YtkoaangakmpggaaGreatDoor
open Go.RowKit Go.Proofs.YtkoaangakmpggaaGreatDoorW.PrintWords Go.Proofs.YtkoaangakmpggaaGreatDoorW.PrintMore
set_option linter.unusedVariables false
set_option linter.unusedSimpArgs false
set_option maxRecDepth 100000

def totV (L : List Bk) : T3 := if vBooks L then totL L else ⟨0, 0, 0⟩
theorem totV_t {L : List Bk} (h : vBooks L = true) : totV L = totL L := by unfold totV; rw [if_pos h]
theorem totV_f {L : List Bk} (h : vBooks L = false) : totV L = ⟨0, 0, 0⟩ := by unfold totV; rw [h]; rfl
end Go.Proofs.YtkoaangakmpggaaGreatDoor
end
section
/- The totals of a row of books: the reference's. -/
namespace Go.Proofs.YtkoaangakmpggaaGreatDoor
open Go.RowKit Go.Proofs.YtkoaangakmpggaaGreatDoorW.PrintWords Go.Proofs.YtkoaangakmpggaaGreatDoorW.PrintMore
set_option linter.unusedVariables false
set_option linter.unusedSimpArgs false
set_option maxRecDepth 100000

end Go.Proofs.YtkoaangakmpggaaGreatDoor
end
section
/- CountByHundreds: the program's and the reference's. -/
namespace Go.Proofs.YtkoaangakmpggaaGreatDoor
open Go.RowKit Go.Proofs.YtkoaangakmpggaaGreatDoorW.PrintWords Go.Proofs.YtkoaangakmpggaaGreatDoorW.PrintMore
set_option linter.unusedVariables false
set_option linter.unusedSimpArgs false
set_option maxRecDepth 100000

theorem vBooks_class {L : List Bk} (h : vBooks L = true) : ∀ b, b ∈ L → 0 ≤ b.c ∧ b.c ≤ 999 := by
  intro b hb
  unfold vBooks at h
  simp only [Bool.and_eq_true, decide_eq_true_eq, List.all_eq_true] at h
  have := h.2 b hb
  unfold vBook at this
  simp only [Bool.and_eq_true] at this
  exact inR_iff.1 this.1
def cntStep (xs : List Int) (b : Bk) : List Int := xs.set (b.c / 100).toNat (wrap64 (xs.getD (b.c / 100).toNat 0 + 1))
def cntL (L : List Bk) : List Int := L.foldl cntStep [0, 0, 0, 0, 0, 0, 0, 0, 0, 0]
theorem cntL_next {L : List Bk} {k : Nat} {b : Bk} (h : L[k]? = some b) : cntL (L.take (k + 1)) = cntStep (cntL (L.take k)) b := by
  unfold cntL
  rw [take_snoc h, List.foldl_append]
  rfl
theorem cntStep_len (xs : List Int) (b : Bk) : (cntStep xs b).length = xs.length := by unfold cntStep; rw [List.length_set]
theorem cntL_len (L : List Bk) : (cntL L).length = 10 := by
  unfold cntL
  have : ∀ (L : List Bk) (xs : List Int), (L.foldl cntStep xs).length = xs.length := by
    intro L
    induction L with
    | nil => intro xs; rfl
    | cons b L ih => intro xs; rw [List.foldl_cons, ih, cntStep_len]
  rw [this]; rfl
/-- Whole numbers as an array's cells. -/
def arr (xs : List Int) : Array Value := (xs.map (Value.int .i64)).toArray
theorem arr_at {xs : List Int} {i : Nat} (h : i < xs.length) : (arr xs)[i]? = some (.int .i64 (xs.getD i 0)) := by
  simp [arr, List.getD_eq_getElem?_getD, h]
theorem arr_set (xs : List Int) (i : Nat) (n : Int) : (arr xs).setIfInBounds i (.int .i64 n) = arr (xs.set i n) := by
  unfold arr
  apply Array.ext'
  simp [List.map_set]
theorem ten {xs : List Int} (h : xs.length = 10) : ∃ a b c d e f g i j k : Int, xs = [a, b, c, d, e, f, g, i, j, k] := by
  match xs, h with
  | [a, b, c, d, e, f, g, i, j, k], _ => exact ⟨a, b, c, d, e, f, g, i, j, k, rfl⟩
/-- A store of ten values into a block of ten. -/
theorem put10 {w : World} {n : Nat} {cs : Array Value} {t : TypeId} (h : w.heap[n]? = some (.cells cs t (0, 0))) (hs : cs.size = 10) (a b c d e f g i j k : Value) :
    ((((((((((w.setCell ⟨n, 0, none⟩ a).setCell ⟨n, 1, none⟩ b).setCell ⟨n, 2, none⟩ c).setCell ⟨n, 3, none⟩ d).setCell ⟨n, 4, none⟩ e).setCell ⟨n, 5, none⟩ f).setCell ⟨n, 6, none⟩ g).setCell ⟨n, 7, none⟩ i).setCell ⟨n, 8, none⟩ j).setCell ⟨n, 9, none⟩ k).heap[n]? = some (.cells #[a, b, c, d, e, f, g, i, j, k] t (0, 0)) := by
  obtain ⟨l⟩ := cs
  match l, hs with
  | [x0, x1, x2, x3, x4, x5, x6, x7, x8, x9], _ =>
    have h9 := (blk_set (blk_set (blk_set (blk_set (blk_set (blk_set (blk_set (blk_set (blk_set (blk_set h 0 a) 1 b) 2 c) 3 d) 4 e) 5 f) 6 g) 7 i) 8 j) 9 k)
    have e : (((((((((((⟨[x0, x1, x2, x3, x4, x5, x6, x7, x8, x9]⟩ : Array Value).setIfInBounds 0 a).setIfInBounds 1 b).setIfInBounds 2 c).setIfInBounds 3 d).setIfInBounds 4 e).setIfInBounds 5 f).setIfInBounds 6 g).setIfInBounds 7 i).setIfInBounds 8 j).setIfInBounds 9 k) = #[a, b, c, d, e, f, g, i, j, k] := by simp
    rw [e] at h9
    exact h9
theorem below10 {B : Nat} {w0 w : World} (h : Below B w0 w) {n : Nat} (hg : B ≤ n) (a b c d e f g i j k : Value) : Below B w0 ((((((((((w.setCell ⟨n, 0, none⟩ a).setCell ⟨n, 1, none⟩ b).setCell ⟨n, 2, none⟩ c).setCell ⟨n, 3, none⟩ d).setCell ⟨n, 4, none⟩ e).setCell ⟨n, 5, none⟩ f).setCell ⟨n, 6, none⟩ g).setCell ⟨n, 7, none⟩ i).setCell ⟨n, 8, none⟩ j).setCell ⟨n, 9, none⟩ k) :=
  (Below.setCell (Below.setCell (Below.setCell (Below.setCell (Below.setCell (Below.setCell (Below.setCell (Below.setCell (Below.setCell (Below.setCell h (p := ⟨n, 0, none⟩) hg a) (p := ⟨n, 1, none⟩) hg b) (p := ⟨n, 2, none⟩) hg c) (p := ⟨n, 3, none⟩) hg d) (p := ⟨n, 4, none⟩) hg e) (p := ⟨n, 5, none⟩) hg f) (p := ⟨n, 6, none⟩) hg g) (p := ⟨n, 7, none⟩) hg i) (p := ⟨n, 8, none⟩) hg j) (p := ⟨n, 9, none⟩) hg k)
def cntV (L : List Bk) : List Int := if vBooks L = true then cntL L else [0, 0, 0, 0, 0, 0, 0, 0, 0, 0]
end Go.Proofs.YtkoaangakmpggaaGreatDoor
end
section
/- FindBook: the program's and the reference's. -/
namespace Go.Proofs.YtkoaangakmpggaaGreatDoor
open Go.RowKit Go.Proofs.YtkoaangakmpggaaGreatDoorW.PrintWords Go.Proofs.YtkoaangakmpggaaGreatDoorW.PrintMore
set_option linter.unusedVariables false
set_option linter.unusedSimpArgs false
set_option maxRecDepth 100000

def markS (b : Bk) : ByteArray := strOfNums [b.m0, b.m1, b.m2]
def fbP (class_ : Int) (mark : ByteArray) (vol : Int) (b : Bk) : Bool := decide (b.c = class_) && (((markS b).toList == mark.toList) && decide (b.v = vol))
theorem mark_conv {W : World} {g o : Nat} {b : Bk} (h : BkAt W ⟨g, o, none⟩ b) (c : Nat) : (convert 22 9 (.slice (some ⟨g, o + 1, none⟩) 3 c)).run Tryz.prog W = .ok (.string (markS b)) W :=
  Kd.C_string Tryz.underlying22 Tryz.underlying5 Tryz.underlying9 (h.mark_C)
theorem mark_conv0 {W : World} {g : Nat} {b : Bk} (h : BkAt W ⟨g, 0, none⟩ b) (c : Nat) : (convert 22 9 (.slice (some ⟨g, 1, none⟩) 3 c)).run Tryz.prog W = .ok (.string (markS b)) W := mark_conv h c
theorem vBooks_vol {L : List Bk} (h : vBooks L = true) : ∀ b, b ∈ L → I16 b.v := by
  intro b hb
  unfold vBooks at h
  simp only [Bool.and_eq_true, decide_eq_true_eq, List.all_eq_true] at h
  have := h.2 b hb
  unfold vBook at this
  simp only [Bool.and_eq_true] at this
  have := inR_iff.1 this.2.2.1
  unfold I16
  omega
def fbV (L : List Bk) (p : Bk → Bool) : Int := if sCode L = 0 then (if idxF L p < 0 then 0 else idxF L p) else 0
def fbE (L : List Bk) (p : Bk → Bool) : Int := if sCode L = 0 then (if idxF L p < 0 then 6 else 0) else sCode L
theorem fb_bad {L : List Bk} {p : Bk → Bool} (h : ¬ sCode L = 0) : fbV L p = 0 ∧ fbE L p = sCode L := by unfold fbV fbE; rw [if_neg h, if_neg h]; exact ⟨rfl, rfl⟩
theorem fb_ok {L : List Bk} {p : Bk → Bool} (h : sCode L = 0) : fbV L p = (if idxF L p < 0 then 0 else idxF L p) ∧ fbE L p = (if idxF L p < 0 then 6 else 0) := by unfold fbV fbE; rw [if_pos h, if_pos h]; exact ⟨rfl, rfl⟩
end Go.Proofs.YtkoaangakmpggaaGreatDoor
end
section
/- ClassRange: the program's and the reference's. -/
namespace Go.Proofs.YtkoaangakmpggaaGreatDoor
open Go.RowKit Go.Proofs.YtkoaangakmpggaaGreatDoorW.PrintWords Go.Proofs.YtkoaangakmpggaaGreatDoorW.PrintMore
set_option linter.unusedVariables false
set_option linter.unusedSimpArgs false
set_option maxRecDepth 100000

theorem within64_c (n lo hi : Int) (w : World) : Calls Tryz.prog 102 #[.int .i64 n, .int .i64 lo, .int .i64 hi] w (RetS w (.bool (inR n lo hi))) := by
  go_enter Tryz.func102, Tryz.ntmps102
  go_wp2
  all_goals (go_ret; refine ⟨ret_bool ?_, rfl⟩; unfold inR; rw [Bool.eq_iff_iff]; simp; omega)
def okRange (low high : Int) : Bool := inR low 0 999 && (inR high 0 999 && decide (low ≤ high))
def crC (L : List Bk) (low high : Int) : Int := if sCode L = 0 then (if okRange low high = true then 0 else 2) else sCode L
def crF (L : List Bk) (low high : Int) : Int := if crC L low high = 0 then (L.findIdx (fun b => decide (low ≤ b.c)) : Nat) else 0
def crT (L : List Bk) (low high : Int) : Int := if crC L low high = 0 then (L.findIdx (fun b => decide (high + 1 ≤ b.c)) : Nat) else 0
theorem cr_bad {L : List Bk} {low high e : Int} (h : crC L low high = e) (he : e ≠ 0) : crF L low high = 0 ∧ crT L low high = 0 ∧ crC L low high = e := ⟨by unfold crF; rw [h, if_neg he], by unfold crT; rw [h, if_neg he], h⟩
theorem cr_ok {L : List Bk} {low high : Int} (h : crC L low high = 0) : crF L low high = (L.findIdx (fun b => decide (low ≤ b.c)) : Nat) ∧ crT L low high = (L.findIdx (fun b => decide (high + 1 ≤ b.c)) : Nat) ∧ crC L low high = 0 := ⟨by unfold crF; rw [h, if_pos rfl], by unfold crT; rw [h, if_pos rfl], h⟩
/-- How many of the first k have a lower class. -/
def cntF (L : List Bk) (n : Int) (k : Nat) : Nat := ((L.take k).filter (fun b => decide (b.c < n))).length
theorem cntF_yes {L : List Bk} {n : Int} {k : Nat} {b : Bk} (h : L[k]? = some b) (hc : b.c < n) : cntF L n (k + 1) = cntF L n k + 1 := by
  unfold cntF
  rw [take_snoc h, List.filter_append, List.length_append, List.filter_cons_of_pos (by simpa using hc)]
  rfl
theorem cntF_no {L : List Bk} {n : Int} {k : Nat} {b : Bk} (h : L[k]? = some b) (hc : ¬ b.c < n) : cntF L n (k + 1) = cntF L n k := by
  unfold cntF
  rw [take_snoc h, List.filter_append, List.length_append, List.filter_cons_of_neg (by simpa using hc)]
  rfl
theorem cntF_le (L : List Bk) (n : Int) (k : Nat) : cntF L n k ≤ k := by
  unfold cntF
  exact Nat.le_trans (List.length_filter_le _ _) (by rw [List.length_take]; omega)
theorem cntF_all {L : List Bk} (hu : Srt.Up ltU L) (n : Int) {k : Nat} (h : L.length ≤ k) : cntF L n k = L.findIdx (fun b => decide (n ≤ b.c)) := by
  unfold cntF
  rw [List.take_of_length_le h]
  exact count_findIdx hu n
end Go.Proofs.YtkoaangakmpggaaGreatDoor
end
section
/- Sorted lists of books: what the great laws ask, in plain Lean. -/
namespace Go.Proofs.YtkoaangakmpggaaGreatDoor
open Go.RowKit Go.Proofs.YtkoaangakmpggaaGreatDoorW.PrintWords Go.Proofs.YtkoaangakmpggaaGreatDoorW.PrintMore
set_option linter.unusedVariables false
set_option linter.unusedSimpArgs false
set_option maxRecDepth 100000

/-- How often a list has a book. -/
def cntB (L : List Bk) (b : Bk) : Nat := (L.filter (fun x => decide (x = b))).length
theorem cntB_app (A B : List Bk) (b : Bk) : cntB (A ++ B) b = cntB A b + cntB B b := by
  unfold cntB
  rw [List.filter_append, List.length_append]
theorem cntB_yes {L : List Bk} {b x : Bk} {k : Nat} (h : L[k]? = some x) (e : x = b) : cntB (L.take (k + 1)) b = cntB (L.take k) b + 1 := by
  rw [take_snoc h, cntB_app]
  unfold cntB
  rw [List.filter_cons_of_pos (by simpa using e)]
  rfl
theorem cntB_no {L : List Bk} {b x : Bk} {k : Nat} (h : L[k]? = some x) (e : ¬ x = b) : cntB (L.take (k + 1)) b = cntB (L.take k) b := by
  rw [take_snoc h, cntB_app]
  unfold cntB
  rw [List.filter_cons_of_neg (by simpa using e)]
  rfl
theorem cntB_le (L : List Bk) (b : Bk) : cntB L b ≤ L.length := List.length_filter_le _ _
theorem cntB_stab {lt : Bk → Bk → Bool} (hw : Srt.Wk lt) {L M : List Bk} (h : Srt.Stab lt L M) (b : Bk) : cntB L b = cntB M b := by
  have e : ∀ K : List Bk, K.filter (fun x => decide (x = b)) = (K.filter (Srt.eqv lt b)).filter (fun x => decide (x = b)) := fun K => by
    rw [List.filter_filter]
    apply List.filter_congr
    intro x _
    by_cases hx : x = b
    · subst hx
      rw [Srt.eqv_self hw]
      simp
    · simp [hx]
  unfold cntB
  rw [e L, e M, h b]
theorem cntB_sort {O : List Int} (L : List Bk) (b : Bk) : cntB (Srt.sortL (ltBy O) L) b = cntB L b := (cntB_stab (ltBy_wk O) (Srt.sortL_ok (ltBy_wk O) L).2 b).symm
theorem sort_idem {O : List Int} (L : List Bk) : Srt.sortL (ltBy O) (Srt.sortL (ltBy O) L) = Srt.sortL (ltBy O) L := (Srt.sortL_of (ltBy_wk O) (Srt.sortL_ok (ltBy_wk O) L).1 (Srt.Stab.refl _ _)).symm
theorem sort_len {O : List Int} (L : List Bk) : (Srt.sortL (ltBy O) L).length = L.length := (Srt.Stab.length (ltBy_wk O) (Srt.sortL_ok (ltBy_wk O) L).2).symm
theorem sort_mem {O : List Int} {L : List Bk} {b : Bk} : b ∈ Srt.sortL (ltBy O) L ↔ b ∈ L := (Srt.Stab.mem (ltBy_wk O) (Srt.sortL_ok (ltBy_wk O) L).2 b).symm
theorem vBooks_of {L : List Bk} (h : ∀ b, b ∈ L → vBook b = true) (hl : L.length ≤ 60) : vBooks L = true := by
  unfold vBooks
  rw [Bool.and_eq_true, decide_eq_true_eq, List.all_eq_true]
  exact ⟨hl, h⟩
theorem sort_valid {O : List Int} {L : List Bk} (h : ∀ b, b ∈ L → vBook b = true) (hl : L.length ≤ 60) : vBooks (Srt.sortL (ltBy O) L) = true := vBooks_of (fun b hb => h b (sort_mem.1 hb)) (by rw [sort_len]; exact hl)
theorem sort_up {O : List Int} (L : List Bk) : Srt.Up (ltBy O) (Srt.sortL (ltBy O) L) := (Srt.sortL_ok (ltBy_wk O) L).1
theorem sort_isS (L : List Bk) : isS (Srt.sortL (ltBy usualL) L) = true := up_isS (sort_up L)
/-- Neighbours of a sorted list, compared both ways. -/
theorem up_adj {O : List Int} {L : List Bk} (h : Srt.Up (ltBy O) L) {i j : Nat} {x y : Bk} (hij : i < j) (hx : L[i]? = some x) (hy : L[j]? = some y) : cmpBy O x y ≤ 0 := by
  obtain ⟨h1, rfl⟩ := List.getElem?_eq_some_iff.1 hx
  obtain ⟨h2, rfl⟩ := List.getElem?_eq_some_iff.1 hy
  have := List.pairwise_iff_getElem.1 h i j h1 h2 hij
  unfold ltBy at this
  rw [decide_eq_false_iff_not] at this
  have := (cmpBy_pre O).anti L[j] L[i]
  omega
theorem cmpBy_anti (O : List Int) (x y : Bk) : cmpBy O y x = -cmpBy O x y := (cmpBy_pre O).anti x y
theorem cmpU_anti (x y : Bk) : cmpU y x = -cmpU x y := cmpBy_anti usualL x y
/-- No pair is out of order in a sorted list, and only there. -/
theorem lowIn_zero {b : Bk} {M : List Bk} : lowIn b M = 0 ↔ ∀ a, a ∈ M → ¬ cmpU b a < 0 := by
  unfold lowIn
  rw [List.length_eq_zero_iff, List.filter_eq_nil_iff]
  simp only [decide_eq_true_eq]
theorem pairsN_zero (L : List Bk) : ∀ k, pairsN L k = 0 ↔ ∀ i b, i < k → L[i]? = some b → lowIn b (L.take i) = 0 := by
  intro k
  induction k with
  | zero => exact ⟨fun _ i b h => absurd h (by omega), fun _ => rfl⟩
  | succ k ih =>
    rw [pairsN]
    cases hk : L[k]? with
    | none =>
      simp only [Nat.add_zero]
      rw [ih]
      refine ⟨fun h i b h1 h2 => ?_, fun h i b h1 h2 => h i b (by omega) h2⟩
      by_cases e : i = k
      · rw [e, hk] at h2; cases h2
      · exact h i b (by omega) h2
    | some c =>
      simp only
      refine ⟨fun h i b h1 h2 => ?_, fun h => ?_⟩
      · by_cases e : i = k
        · rw [e, hk] at h2
          obtain rfl := Option.some.inj h2
          rw [e]; omega
        · exact ih.1 (by omega) i b (by omega) h2
      · have h1 := ih.2 (fun i b h1 h2 => h i b (by omega) h2)
        have h2 := h k c (by omega) hk
        omega
theorem pairs_zero {L : List Bk} (h : isS L = true) : pairsL L = 0 := by
  unfold pairsL
  have : pairsN L L.length = 0 := by
    rw [pairsN_zero]
    intro i b hi hb
    rw [lowIn_zero]
    intro a ha
    obtain ⟨j, hj, rfl⟩ := List.mem_take_iff_getElem.1 ha
    have h1 : cmpBy usualL L[j] b ≤ 0 := up_adj (isS_up h) (show j < i by omega) (List.getElem?_eq_getElem (by omega)) hb
    have := cmpBy_anti usualL L[j] b
    show ¬ cmpBy usualL b L[j] < 0
    omega
  rw [this]
  rfl
theorem pairs_pos {L : List Bk} (h : isS L = false) : 0 < pairsL L := by
  rcases Nat.eq_zero_or_pos (pairsN L L.length) with h0 | h0
  · exfalso
    have h1 : isS L = true := by
      rw [isS_iff]
      intro j h2 h3
      have hx := List.getElem?_eq_getElem h3
      have hy : L[j - 1]? = some L[j - 1] := List.getElem?_eq_getElem (by omega)
      rw [outAt_of hx hy, decide_eq_false_iff_not]
      exact lowIn_zero.1 ((pairsN_zero L L.length).1 h0 j L[j] h3 hx) L[j - 1] (List.mem_take_iff_getElem.2 ⟨j - 1, by omega, rfl⟩)
    rw [h] at h1
    cases h1
  · unfold pairsL
    omega
theorem isS_out {L : List Bk} : isS L = true ↔ outOf L < 0 := by
  unfold isS
  rw [decide_eq_true_eq]
/-- Runs begin at rising places. -/
theorem runs_rise (L : List Bk) : (runsL L).Pairwise (fun x y => x < y) := by
  unfold runsL runsN
  rw [List.pairwise_map]
  refine List.Pairwise.imp ?_ (List.pairwise_lt_range.filter _)
  intro a b h
  simp only [Int.ofNat_eq_natCast]
  omega
theorem gap_in {own : List Int} (hr : own.Pairwise (fun x y => x < y)) : ∀ k, k + 1 < own.length + 0 → ∃ i a b, i < k + 1 ∧ own[i]? = some a ∧ own[i + 1]? = some b ∧ (gapN own (k + 1)) = (a, b - a) ∧ 1 ≤ b - a := by
  intro k
  induction k with
  | zero =>
    intro h
    have h0 : own[0]? = some own[0] := List.getElem?_eq_getElem (by omega)
    have h1 : own[0 + 1]? = some own[0 + 1] := List.getElem?_eq_getElem (by omega)
    have hl := List.pairwise_iff_getElem.1 hr 0 (0 + 1) (by omega) (by omega) (by omega)
    refine ⟨0, _, _, by omega, h0, h1, ?_, by omega⟩
    rw [gapN_next h0 h1, if_pos (by show (0 : Int) < _; omega)]
  | succ k ih =>
    intro h
    obtain ⟨i, a, b, hi, ha, hb, he, h1⟩ := ih (by omega)
    have h2 : own[k + 1]? = some own[k + 1] := List.getElem?_eq_getElem (by omega)
    have h3 : own[k + 1 + 1]? = some own[k + 1 + 1] := List.getElem?_eq_getElem (by omega)
    have hl := List.pairwise_iff_getElem.1 hr (k + 1) (k + 1 + 1) (by omega) (by omega) (by omega)
    rw [gapN_next h2 h3]
    by_cases hc : (gapN own (k + 1)).2 < own[k + 1 + 1] - own[k + 1]
    · rw [if_pos hc]
      exact ⟨k + 1, _, _, by omega, h2, h3, rfl, by omega⟩
    · rw [if_neg hc]
      exact ⟨i, a, b, by omega, ha, hb, he, h1⟩
theorem longest_in {L : List Bk} (h : 0 < L.length) : (longest L).1 ∈ runsL L ∧ 1 ≤ (longest L).2 ∧ (longest L).1 + (longest L).2 ≤ (L.length : Int) := by
  have hp : 0 < (runsL L).length := by rw [runsL_cons h]; simp
  have hr : (runsL L ++ [(L.length : Int)]).Pairwise (fun x y => x < y) := by
    rw [List.pairwise_append]
    exact ⟨runs_rise L, List.pairwise_singleton _ _, fun x hx y hy => by rw [List.mem_singleton.1 hy]; exact (runsN_mem hx).2⟩
  obtain ⟨i, a, b, hi, ha, hb, he, h1⟩ := gap_in hr ((runsL L).length - 1) (by simp; omega)
  rw [show (runsL L).length - 1 + 1 = (runsL L).length by omega] at he hi
  have hm : a ∈ runsL L := by
    rw [List.getElem?_append_left hi] at ha
    exact List.mem_of_getElem? ha
  have hbl : b ≤ (L.length : Int) := by
    have := List.mem_of_getElem? hb
    rcases List.mem_append.1 this with h2 | h2
    · have := (runsN_mem h2).2; omega
    · rw [List.mem_singleton.1 h2]; exact Int.le_refl _
  have e : longest L = (a, b - a) := he
  rw [e]
  exact ⟨hm, h1, by show a + (b - a) ≤ _; omega⟩
/-- A book in its place. -/
theorem place_le (b : Bk) (L : List Bk) : placeOf b L ≤ L.length := List.findIdx_le_length
theorem place_lo {b : Bk} {L : List Bk} {y : Bk} (h : y ∈ L.take (placeOf b L)) : ltU b y = false := by
  obtain ⟨j, hj, rfl⟩ := List.mem_take_iff_getElem.1 h
  have h1 : j < List.findIdx (ltU b) L := by unfold placeOf at hj; omega
  have := List.not_of_lt_findIdx h1
  simpa using this
theorem place_at {b y : Bk} {L : List Bk} (h : L[placeOf b L]? = some y) : ltU b y = true := by
  obtain ⟨h1, rfl⟩ := List.getElem?_eq_some_iff.1 h
  exact List.findIdx_getElem (w := h1)
theorem place_hi {b : Bk} {L : List Bk} (hu : Srt.Up ltU L) {y : Bk} (h : y ∈ L.drop (placeOf b L)) : ltU b y = true := by
  rw [List.mem_drop_iff_getElem] at h
  obtain ⟨j, hj, rfl⟩ := h
  have h0 : placeOf b L < L.length := by omega
  have h1 := place_at (List.getElem?_eq_getElem h0)
  rcases Nat.eq_zero_or_pos j with rfl | hj0
  · simpa using h1
  · have := List.pairwise_iff_getElem.1 hu (placeOf b L) (placeOf b L + j) h0 (by omega) (by omega)
    exact ltU_wk.tr1 h1 this
def wideL (L : List Bk) (b : Bk) : List Bk := L.take (placeOf b L) ++ b :: L.drop (placeOf b L)
theorem wide_isS {L : List Bk} (h : isS L = true) (b : Bk) : isS (wideL L b) = true := up_isS (Srt.put_ok ltU_wk (isS_up h) (fun y hy => place_hi (isS_up h) hy) (fun y hy => place_lo hy)).1
theorem wide_len (L : List Bk) (b : Bk) : (wideL L b).length = L.length + 1 := by
  unfold wideL
  have := place_le b L
  simp only [List.length_append, List.length_cons, List.length_take, List.length_drop]
  omega
theorem wide_mem {L : List Bk} {b x : Bk} (h : x ∈ wideL L b) : x = b ∨ x ∈ L := by
  unfold wideL at h
  rcases List.mem_append.1 h with h | h
  · exact .inr (List.mem_of_mem_take h)
  · rcases List.mem_cons.1 h with h | h
    · exact .inl h
    · exact .inr (List.mem_of_mem_drop h)
theorem wide_at (L : List Bk) (b : Bk) : (wideL L b)[placeOf b L]? = some b := by
  unfold wideL
  have := place_le b L
  rw [List.getElem?_append_right (by rw [List.length_take]; omega), List.length_take, show placeOf b L - min (placeOf b L) L.length = 0 by omega]
  rfl
theorem cmp3_zero {x0 x1 x2 y0 y1 y2 : Int} : cmp3 x0 x1 x2 y0 y1 y2 = 0 ↔ x0 = y0 ∧ x1 = y1 ∧ x2 = y2 := by
  unfold cmp3
  by_cases h0 : x0 = y0
  · by_cases h1 : x1 = y1
    · rw [if_pos h0, if_pos h1, cmpI_zero]; exact ⟨fun h => ⟨h0, h1, h⟩, fun h => h.2.2⟩
    · rw [if_pos h0, if_neg h1, cmpI_zero]; exact ⟨fun h => absurd h h1, fun h => absurd h.2.1 h1⟩
  · rw [if_neg h0, cmpI_zero]; exact ⟨fun h => absurd h h0, fun h => absurd h.1 h0⟩
theorem sgn_zero {f : Int} (h : 0 < f) (a b : Bk) : sgnCmp f a b = 0 ↔ num0 (absF f) a = num0 (absF f) b ∧ num1 (absF f) a = num1 (absF f) b ∧ num2 (absF f) a = num2 (absF f) b := by
  unfold sgnCmp
  rw [if_neg (by omega)]
  exact cmp3_zero
/-- Two books are alike in the usual order as they are by class, mark and volume. -/
theorem cmpU_zero {a b : Bk} : cmpU a b = 0 ↔ a.c = b.c ∧ a.m0 = b.m0 ∧ a.m1 = b.m1 ∧ a.m2 = b.m2 ∧ a.v = b.v := by
  have h1 := sgn_zero (f := 1) (by omega) a b
  have h2 := sgn_zero (f := 2) (by omega) a b
  have h3 := sgn_zero (f := 3) (by omega) a b
  have e : cmpU a b = if sgnCmp 1 a b = 0 then (if sgnCmp 2 a b = 0 then (if sgnCmp 3 a b = 0 then 0 else sgnCmp 3 a b) else sgnCmp 2 a b) else sgnCmp 1 a b := rfl
  have a1 : absF 1 = 1 := by decide
  have a2 : absF 2 = 2 := by decide
  have a3 : absF 3 = 3 := by decide
  rw [a1] at h1
  rw [a2] at h2
  rw [a3] at h3
  change sgnCmp 1 a b = 0 ↔ a.c = b.c ∧ (0 : Int) = 0 ∧ (0 : Int) = 0 at h1
  change sgnCmp 2 a b = 0 ↔ a.m0 = b.m0 ∧ a.m1 = b.m1 ∧ a.m2 = b.m2 at h2
  change sgnCmp 3 a b = 0 ↔ a.v = b.v ∧ (0 : Int) = 0 ∧ (0 : Int) = 0 at h3
  simp only [and_true] at h1 h3
  rw [e]
  by_cases e1 : sgnCmp 1 a b = 0
  · rw [if_pos e1]
    by_cases e2 : sgnCmp 2 a b = 0
    · rw [if_pos e2]
      by_cases e3 : sgnCmp 3 a b = 0
      · rw [if_pos e3]
        exact ⟨fun _ => ⟨h1.1 e1, (h2.1 e2).1, (h2.1 e2).2.1, (h2.1 e2).2.2, h3.1 e3⟩, fun _ => rfl⟩
      · rw [if_neg e3]
        exact ⟨fun h => absurd h e3, fun h => absurd (h3.2 h.2.2.2.2) e3⟩
    · rw [if_neg e2]
      exact ⟨fun h => absurd h e2, fun h => absurd (h2.2 ⟨h.2.1, h.2.2.1, h.2.2.2.1⟩) e2⟩
  · rw [if_neg e1]
    exact ⟨fun h => absurd h e1, fun h => absurd (h1.2 h.1) e1⟩
theorem vBook_mk {b : Bk} (h : vBook b = true) : (97 ≤ b.m0 ∧ b.m0 ≤ 122) ∧ (97 ≤ b.m1 ∧ b.m1 ≤ 122) ∧ (97 ≤ b.m2 ∧ b.m2 ≤ 122) := by
  unfold vBook vMark at h
  simp only [Bool.and_eq_true, inR_iff] at h
  exact ⟨h.2.1.1, h.2.1.2.1, h.2.1.2.2⟩
theorem vBook_cl {b : Bk} (h : vBook b = true) : 0 ≤ b.c ∧ b.c ≤ 999 := by
  unfold vBook at h
  simp only [Bool.and_eq_true, inR_iff] at h
  exact h.1
theorem u8_injB {x y : Int} (hx : 97 ≤ x ∧ x ≤ 122) (hy : 97 ≤ y ∧ y ≤ 122) (h : UInt8.ofNat x.toNat = UInt8.ofNat y.toNat) : x = y := by
  have h1 := congrArg UInt8.toNat h
  rw [UInt8.toNat_ofNat', UInt8.toNat_ofNat'] at h1
  omega
theorem mark_iff {a b : Bk} (ha : vBook a = true) (hb : vBook b = true) : ((markS a).toList == (markS b).toList) = true ↔ a.m0 = b.m0 ∧ a.m1 = b.m1 ∧ a.m2 = b.m2 := by
  obtain ⟨a0, a1, a2⟩ := vBook_mk ha
  obtain ⟨b0, b1, b2⟩ := vBook_mk hb
  unfold markS
  rw [Go.Lib.strOfNums_toList, Go.Lib.strOfNums_toList, beq_iff_eq]
  constructor
  · intro h
    simp only [Go.Lib.bytesOf, List.map_cons, List.map_nil, List.cons.injEq, and_true] at h
    exact ⟨u8_injB a0 b0 h.1, u8_injB a1 b1 h.2.1, u8_injB a2 b2 h.2.2⟩
  · rintro ⟨h0, h1, h2⟩
    rw [h0, h1, h2]
theorem fb_iff {x b : Bk} (hx : vBook x = true) (hb : vBook b = true) : fbP x.c (markS x) x.v b = true ↔ cmpU b x = 0 := by
  unfold fbP
  rw [Bool.and_eq_true, Bool.and_eq_true, decide_eq_true_eq, decide_eq_true_eq, mark_iff hb hx, cmpU_zero]
  exact ⟨fun h => ⟨h.1, h.2.1.1, h.2.1.2.1, h.2.1.2.2, h.2.2⟩, fun h => ⟨h.1, ⟨h.2.1, h.2.2.1, h.2.2.2.1⟩, h.2.2.2.2⟩⟩
/-- The book is found, at its place or before it, and no equal one is ahead of it. -/
theorem find_wide {L : List Bk} {b : Bk} (hv : vBooks L = true) (hl : L.length ≤ 59) (hs : isS L = true) (hb : vBook b = true) :
    ∃ k : Nat, fbV (wideL L b) (fbP b.c (markS b) b.v) = (k : Int) ∧ fbE (wideL L b) (fbP b.c (markS b) b.v) = 0 ∧ k ≤ placeOf b L ∧ k < (wideL L b).length ∧ (∀ y, (wideL L b)[k]? = some y → cmpU y b = 0) ∧ (∀ y, 0 < k → (wideL L b)[k - 1]? = some y → cmpU y b ≠ 0) := by
  have hall : ∀ y, y ∈ wideL L b → vBook y = true := fun y hy => by
    rcases wide_mem hy with rfl | hy
    · exact hb
    · unfold vBooks at hv
      rw [Bool.and_eq_true, List.all_eq_true] at hv
      exact hv.2 y hy
  have hw : vBooks (wideL L b) = true := vBooks_of hall (by rw [wide_len]; omega)
  have hc : sCode (wideL L b) = 0 := sCode_zero.2 ⟨hw, wide_isS hs b⟩
  have hat := wide_at L b
  have hp : fbP b.c (markS b) b.v b = true := (fb_iff hb hb).2 (cmpU_zero.2 ⟨rfl, rfl, rfl, rfl, rfl⟩)
  have hany : (wideL L b).any (fbP b.c (markS b) b.v) = true := List.any_eq_true.2 ⟨b, List.mem_of_getElem? hat, hp⟩
  have hlt : (wideL L b).findIdx (fbP b.c (markS b) b.v) < (wideL L b).length := List.findIdx_lt_length_of_exists ⟨b, List.mem_of_getElem? hat, hp⟩
  refine ⟨(wideL L b).findIdx (fbP b.c (markS b) b.v), ?_, ?_, ?_, hlt, ?_, ?_⟩
  · rw [(fb_ok hc).1]
    unfold idxF
    rw [if_pos hany, if_neg (by omega)]
  · rw [(fb_ok hc).2]
    unfold idxF
    rw [if_pos hany, if_neg (by omega)]
  · rcases Nat.lt_or_ge (placeOf b L) ((wideL L b).findIdx (fbP b.c (markS b) b.v)) with h | h
    · have h1 := List.not_of_lt_findIdx h
      obtain ⟨h2, h3⟩ := List.getElem?_eq_some_iff.1 hat
      rw [h3, hp] at h1
      exact absurd h1 (by decide)
    · exact h
  · intro y hy
    obtain ⟨h1, rfl⟩ := List.getElem?_eq_some_iff.1 hy
    have h2 : fbP b.c (markS b) b.v (wideL L b)[(wideL L b).findIdx (fbP b.c (markS b) b.v)] = true := List.findIdx_getElem (w := h1)
    exact (fb_iff hb (hall _ (List.getElem_mem h1))).1 h2
  · intro y h0 hy h4
    obtain ⟨h1, rfl⟩ := List.getElem?_eq_some_iff.1 hy
    have h2 := List.not_of_lt_findIdx (p := fbP b.c (markS b) b.v) (xs := wideL L b) (i := (wideL L b).findIdx (fbP b.c (markS b) b.v) - 1) (by omega)
    rw [(fb_iff hb (hall _ (List.getElem_mem h1))).2 h4] at h2
    exact absurd h2 (by decide)
/-- The books of some classes lie between the bounds that are told. -/
theorem class_le {L : List Bk} (hu : Srt.Up ltU L) {n : Int} {i : Nat} {b : Bk} (h : L[i]? = some b) : L.findIdx (fun x => decide (n ≤ x.c)) ≤ i ↔ n ≤ b.c := by
  obtain ⟨h1, rfl⟩ := List.getElem?_eq_some_iff.1 h
  constructor
  · intro h2
    have h3 : L.findIdx (fun x => decide (n ≤ x.c)) < L.length := by omega
    have h4 : decide (n ≤ L[L.findIdx (fun x => decide (n ≤ x.c))].c) = true := List.findIdx_getElem (p := fun x : Bk => decide (n ≤ x.c)) (w := h3)
    rw [decide_eq_true_eq] at h4
    rcases Nat.lt_or_ge (L.findIdx (fun x => decide (n ≤ x.c))) i with h5 | h5
    · have := cmpU_class (List.pairwise_iff_getElem.1 hu _ i h3 h1 h5)
      omega
    · have h6 : L.findIdx (fun x => decide (n ≤ x.c)) = i := by omega
      rw [← show L[L.findIdx (fun x => decide (n ≤ x.c))] = L[i] by congr 1]
      exact h4
  · intro h2
    rcases Nat.lt_or_ge i (L.findIdx (fun x => decide (n ≤ x.c))) with h3 | h3
    · have := List.not_of_lt_findIdx h3
      simp only [Bool.not_eq_true, decide_eq_false_iff_not] at this
      omega
    · exact h3
theorem range_le (L : List Bk) {lo hi : Int} (h : lo ≤ hi + 1) : L.findIdx (fun x => decide (lo ≤ x.c)) ≤ L.findIdx (fun x => decide (hi + 1 ≤ x.c)) := by
  rcases Nat.lt_or_ge (L.findIdx (fun x => decide (hi + 1 ≤ x.c))) (L.findIdx (fun x => decide (lo ≤ x.c))) with h1 | h1
  · exfalso
    have h2 := List.not_of_lt_findIdx h1
    have h3 : L.findIdx (fun x => decide (hi + 1 ≤ x.c)) < L.length := Nat.lt_of_lt_of_le h1 List.findIdx_le_length
    have h4 : decide (hi + 1 ≤ L[L.findIdx (fun x => decide (hi + 1 ≤ x.c))].c) = true := List.findIdx_getElem (p := fun x : Bk => decide (hi + 1 ≤ x.c)) (w := h3)
    simp only [Bool.not_eq_true, decide_eq_false_iff_not, decide_eq_true_eq] at h2 h4
    omega
  · exact h1
end Go.Proofs.YtkoaangakmpggaaGreatDoor
end
section
/- Two lists of books are equal: slices.Equal, SameBooks, the reference's. -/
namespace Go.Proofs.YtkoaangakmpggaaGreatDoor
open Go.RowKit Go.Proofs.YtkoaangakmpggaaGreatDoorW.PrintWords Go.Proofs.YtkoaangakmpggaaGreatDoorW.PrintMore
set_option linter.unusedVariables false
set_option linter.unusedSimpArgs false
set_option maxRecDepth 100000

theorem info_u8 : ∃ i, Tryz.prog.info? 5 = some i ∧ i.size = 1 := by
  have h : (Tryz.prog.info? 5).map (fun i => i.size) = some 1 := by kernel_rfl
  obtain ⟨i, h1, h2⟩ := Option.map_eq_some_iff.1 h
  exact ⟨i, h1, h2⟩
theorem agg_u8 (w : World) : (isAgg 5).run Tryz.prog w = .ok false w := by kernel_rfl
/-- Three bytes against three bytes. -/
theorem arr3_eq (x y z x' y' z' : Int) (w : World) : (Op.equalIn 9999 42 (.agg #[.int .u8 x, .int .u8 y, .int .u8 z]) (.agg #[.int .u8 x', .int .u8 y', .int .u8 z'])).run Tryz.prog w = .ok (decide (x = x' ∧ y = y' ∧ z = z')) w := by
  obtain ⟨i, hi, hs⟩ := info_u8
  rw [run_equalIn_array w 9998 _ _ Tryz.underlying42 hi]
  have hc : Tryz.prog.cellsOf 5 = 1 := by kernel_rfl
  rw [hc, show List.range 3 = [0, 1, 2] from rfl]
  have e1 : ∀ (a b : Int) (w : World), (Op.equalIn 9998 5 (.int .u8 a) (.int .u8 b)).run Tryz.prog w = .ok (a == b) w := fun a b w => run_equalIn_int w 9997 5 .u8 .u8 a b Tryz.underlying5
  simp only [Op.eqItems, Sem.run_bind, part, agg_u8, Result.andThen_ok, Bool.false_eq_true, if_false]
  by_cases h0 : x = x' <;> by_cases h1 : y = y' <;> by_cases h2 : z = z' <;> simp [part, agg_u8, e1, h0, h1, h2]
theorem bk_same {b b' : Bk} (h0 : b.c = b'.c) (h1 : ¬(b.m0 = b'.m0 → b.m1 = b'.m1 → ¬b.m2 = b'.m2)) (h2 : b.v = b'.v) (h3 : b.wd = b'.wd) (h4 : b.h = b'.h) (h5 : b.wt = b'.wt) : b = b' := by
  cases b; cases b'
  simp only [Bk.mk.injEq] at *
  simp_all
set_option maxHeartbeats 2000000 in
theorem l01Same_c (A A' : Option Addr) (c c' : Nat) (L L' : List Bk) (w : World) (hL : kBk.C w A L.length L) (hL' : kBk.C w A' L'.length L') : Calls Tryz.prog 46 #[.slice A L.length c, .slice A' L'.length c'] w (Ret w (.bool (decide (L = L')))) := by
  have hm := Kd.C_max hL
  have hm' := Kd.C_max hL'
  have HL := Aside0.mk hL
  have HL' := Aside0.mk hL'
  clear hL hL'
  by_cases hll : L.length = L'.length
  · have HLL := Aside0.mk hll
    have hb0 : ((L.length : Int) != (L'.length : Int)) = false := by simp [hll]
    have hb0' : (L.length != L'.length) = false := by simp [hll]
    clear hll
    go_enter Tryz.func46, Tryz.ntmps46
    go_wp2
    go_loopg [5] L.length (fun gk v wr => ∃ k : Nat, k + gk = L.length ∧ v = .int .i64 k ∧ Aside0 (L.take k = L'.take k) ∧ Aside0 (Below w.heap.size w wr))
    case atStart => exact ⟨0, by omega, rfl, ⟨by simp⟩, ⟨Below.refl _ _⟩⟩
    case round =>
      clear hb0 hb0'
      obtain ⟨k, hk, rfl, hp, hb⟩ := hrel
      have HK := Aside0.mk hk
      by_cases hlt : k < L.length
      · have hlt' : k < L'.length := by have := HLL.out; omega
        obtain ⟨ad, b, rfl, hbk, x0, x1, x2, x3, x4, x5, x6, x7⟩ := at_bk (Kd.C_below HL.out hb.out) k (by omega)
        obtain ⟨ad', b', rfl, hbk', y0, y1, y2, y3, y4, y5, y6, y7⟩ := at_bk (Kd.C_below HL'.out hb.out) k (by omega)
        clear hk
        have i0 : (0 : Int) ≤ (k : Int) := by omega
        have i1 : (k : Int) < (L.length : Int) := by omega
        have i2 : (k : Int) < (L'.length : Int) := by omega
        have hqn := arr3_eq b.m0 b.m1 b.m2 b'.m0 b'.m1 b'.m2
        by_cases hbb : b = b'
        · have HD := Aside0.mk (show decide (b = b') = true by simp [hbb])
          have HN := Aside0.mk (show L.take (k + 1) = L'.take (k + 1) by rw [take_snoc hbk.out, take_snoc hbk'.out, hp.out, hbb])
          clear HD
          subst hbb
          simp only [and_self, decide_true] at hqn
          go_wp2_with fail
          go_still_tail 8, (by kernel_rfl)
          go_wp2
          go_roundg (gk - 1)
          case measure => have := HK.out; omega
          case rel => exact ⟨k + 1, by have := HK.out; omega, by go_num, HN, ⟨bdrewN hb.out _⟩⟩
        · have HD := Aside0.mk (show decide (b = b') = false by simp [hbb])
          have HN := Aside0.mk (show L ≠ L' from fun h => hbb (by have h1 := hbk.out; rw [h, hbk'.out] at h1; injection h1 with h1; exact h1.symm))
          have HBB := Aside0.mk hbb
          clear hbb HD
          go_wp2_with fail
          go_still_tail 8, (by kernel_rfl)
          go_wp2
          all_goals first
            | exact absurd (bk_same ‹b.c = b'.c› ‹¬(b.m0 = b'.m0 → b.m1 = b'.m1 → ¬b.m2 = b'.m2)› ‹b.v = b'.v› ‹b.wd = b'.wd› ‹b.h = b'.h› ‹b.wt = b'.wt›) HBB.out
            | (go_ret; exact ⟨ret_bool (decide_eq_false HN.out).symm, bdrewN hb.out _⟩)
      · have HE := Aside0.mk (show L = L' by have h1 := hp.out; have h2 := HLL.out; rwa [List.take_of_length_le (by omega), List.take_of_length_le (by omega)] at h1)
        clear hk
        go_wp2
        go_ret
        exact ⟨ret_bool (decide_eq_true HE.out).symm, hb.out⟩
  · have hb0 : ((L.length : Int) != (L'.length : Int)) = true := by simp; omega
    have hb0' : (L.length != L'.length) = true := by simpa using hll
    have HN := Aside0.mk (show L ≠ L' from fun h => hll (by rw [h]))
    clear hll
    go_enter Tryz.func46, Tryz.ntmps46
    go_wp2
    all_goals (go_ret; exact ⟨ret_bool (decide_eq_false HN.out).symm, Below.refl _ _⟩)
set_option maxHeartbeats 2000000 in
theorem slicesEqual_c (A A' : Option Addr) (c c' : Nat) (L L' : List Bk) (w : World) (hL : kBk.C w A L.length L) (hL' : kBk.C w A' L'.length L') : Calls Tryz.prog 47 #[.slice A L.length c, .slice A' L'.length c'] w (Ret w (.bool (decide (L = L')))) := by
  have hm := Kd.C_max hL
  have hm' := Kd.C_max hL'
  have HL := Aside0.mk hL
  have HL' := Aside0.mk hL'
  clear hL hL'
  by_cases hll : L.length = L'.length
  · have HLL := Aside0.mk hll
    have hb0 : ((L.length : Int) != (L'.length : Int)) = false := by simp [hll]
    have hb0' : (L.length != L'.length) = false := by simp [hll]
    clear hll
    go_enter Tryz.func47, Tryz.ntmps47
    go_wp2
    go_loopg [13] L.length (fun gk v wr => ∃ k : Nat, k + gk = L.length ∧ v = .int .i64 k ∧ Aside0 (L.take k = L'.take k) ∧ Aside0 (Below w.heap.size w wr))
    case atStart => exact ⟨0, by omega, rfl, ⟨by simp⟩, ⟨Below.refl _ _⟩⟩
    case round =>
      clear hb0 hb0'
      obtain ⟨k, hk, rfl, hp, hb⟩ := hrel
      have HK := Aside0.mk hk
      by_cases hlt : k < L.length
      · have hlt' : k < L'.length := by have := HLL.out; omega
        obtain ⟨ad, b, rfl, hbk, x0, x1, x2, x3, x4, x5, x6, x7⟩ := at_bk (Kd.C_below HL.out hb.out) k (by omega)
        obtain ⟨ad', b', rfl, hbk', y0, y1, y2, y3, y4, y5, y6, y7⟩ := at_bk (Kd.C_below HL'.out hb.out) k (by omega)
        clear hk
        have i0 : (0 : Int) ≤ (k : Int) := by omega
        have i1 : (k : Int) < (L.length : Int) := by omega
        have i2 : (k : Int) < (L'.length : Int) := by omega
        have hqn := arr3_eq b.m0 b.m1 b.m2 b'.m0 b'.m1 b'.m2
        by_cases hbb : b = b'
        · have HD := Aside0.mk (show decide (b = b') = true by simp [hbb])
          have HN := Aside0.mk (show L.take (k + 1) = L'.take (k + 1) by rw [take_snoc hbk.out, take_snoc hbk'.out, hp.out, hbb])
          clear HD
          subst hbb
          simp only [and_self, decide_true] at hqn
          go_wp2_with fail
          go_still_tail 8, (by kernel_rfl)
          go_wp2
          go_roundg (gk - 1)
          case measure => have := HK.out; omega
          case rel => exact ⟨k + 1, by have := HK.out; omega, by go_num, HN, ⟨bdrewN hb.out _⟩⟩
        · have HD := Aside0.mk (show decide (b = b') = false by simp [hbb])
          have HN := Aside0.mk (show L ≠ L' from fun h => hbb (by have h1 := hbk.out; rw [h, hbk'.out] at h1; injection h1 with h1; exact h1.symm))
          have HBB := Aside0.mk hbb
          clear hbb HD
          go_wp2_with fail
          go_still_tail 8, (by kernel_rfl)
          go_wp2
          all_goals first
            | exact absurd (bk_same ‹b.c = b'.c› ‹¬(b.m0 = b'.m0 → b.m1 = b'.m1 → ¬b.m2 = b'.m2)› ‹b.v = b'.v› ‹b.wd = b'.wd› ‹b.h = b'.h› ‹b.wt = b'.wt›) HBB.out
            | (go_ret; exact ⟨ret_bool (decide_eq_false HN.out).symm, bdrewN hb.out _⟩)
      · have HE := Aside0.mk (show L = L' by have h1 := hp.out; have h2 := HLL.out; rwa [List.take_of_length_le (by omega), List.take_of_length_le (by omega)] at h1)
        clear hk
        go_wp2
        go_ret
        exact ⟨ret_bool (decide_eq_true HE.out).symm, hb.out⟩
  · have hb0 : ((L.length : Int) != (L'.length : Int)) = true := by simp; omega
    have hb0' : (L.length != L'.length) = true := by simpa using hll
    have HN := Aside0.mk (show L ≠ L' from fun h => hll (by rw [h]))
    clear hll
    go_enter Tryz.func47, Tryz.ntmps47
    go_wp2
    all_goals (go_ret; exact ⟨ret_bool (decide_eq_false HN.out).symm, Below.refl _ _⟩)
theorem SameBooks_c (A A' : Option Addr) (c c' : Nat) (L L' : List Bk) (w : World) (hL : kBk.C w A L.length L) (hL' : kBk.C w A' L'.length L') : Calls Tryz.prog 15 #[.slice A L.length c, .slice A' L'.length c'] w (Ret w (.bool (decide (L = L')))) := by
  have HC := Aside0.mk (slicesEqual_c A A' c c' L L' w hL hL')
  clear hL hL'
  go_enter Tryz.func15, Tryz.ntmps15
  go_wp2_with fail
  refine HC.out.mono ?_; rintro _ w1 ⟨rfl, hb1⟩
  go_wp2_with fail
  go_ret
  exact ⟨rfl, hb1⟩
theorem specSameBooks_c (A A' : Option Addr) (c c' : Nat) (L L' : List Bk) (w : World) (hL : kBk.C w A L.length L) (hL' : kBk.C w A' L'.length L') : Calls Tryz.prog 14 #[.slice A L.length c, .slice A' L'.length c'] w (Ret w (.bool (decide (L = L')))) := by
  have HC := Aside0.mk (l01Same_c A A' c c' L L' w hL hL')
  clear hL hL'
  go_enter Tryz.func14, Tryz.ntmps14
  go_wp2_with fail
  refine HC.out.mono ?_; rintro _ w1 ⟨rfl, hb1⟩
  go_wp2_with fail
  go_ret
  exact ⟨rfl, hb1⟩
end Go.Proofs.YtkoaangakmpggaaGreatDoor
end
section
/- Regions that draw their order and whose callees may lay blocks of their own, walked once. -/
namespace Go.Proofs.YtkoaangakmpggaaGreatDoor
open Go.RowKit Go.Proofs.YtkoaangakmpggaaGreatDoorW.PrintWords Go.Proofs.YtkoaangakmpggaaGreatDoorW.PrintMore
set_option linter.unusedVariables false
set_option linter.unusedSimpArgs false
set_option maxRecDepth 100000

/-- A world that has grown out of w, what lay below kept. -/
structure Over (w : World) where
  W : World
  h : Below w.heap.size w W
instance (w : World) : Inhabited (Over w) := ⟨⟨w, Below.refl _ _⟩⟩
theorem region_over {P : Program} {id : Nat} {Q : Exit → Act → World → Prop} {a : Act} {w : World} {l : List Oper} (hm : P.follows .mixedOrders = true) (hB : Region.lexB .any l.toArray = true)
    (h : wpQuiet P l.toArray (fun w' => ∃ p : Over w, w' = p.W) (fun a' => ∀ w', (∃ p : Over w, w' = p.W) → Q .normal a' w') l a) : (Code.region id l.toArray true).wp P Q a w :=
  wp_region_quiet (C := fun w' => ∃ p : Over w, w' = p.W) hm hB ⟨⟨w.drew, bdrew (Below.refl _ _)⟩, rfl⟩ (by simpa using h)
theorem Calls.over_of {P : Program} {f : FuncId} {args : Array Value} {w : World} {p : Over w} {v : Value} (h : Calls P f args p.W (Ret p.W v)) : Calls P f args p.W (fun e w'' => e = .returned v ∧ ∃ q : Over w, w'' = q.W) :=
  h.mono fun e w' h => ⟨h.1, ⟨w', bstep p.h h.2⟩, rfl⟩
theorem over_out {w w' : World} (h : ∃ p : Over w, w' = p.W) : Below w.heap.size w w' := by
  obtain ⟨p, hp⟩ := h
  rw [hp]; exact p.h
/-- A cell of an old block. -/
theorem Over.cell {w : World} {a : Addr} {v : Value} (h : w.cell? a = some v) (p : Over w) : p.W.cell? a = some v := pw_cell_below p.h h
end Go.Proofs.YtkoaangakmpggaaGreatDoor
end
section
/- How often a list has a book: the reference's. -/
namespace Go.Proofs.YtkoaangakmpggaaGreatDoor
open Go.RowKit Go.Proofs.YtkoaangakmpggaaGreatDoorW.PrintWords Go.Proofs.YtkoaangakmpggaaGreatDoorW.PrintMore
set_option linter.unusedVariables false
set_option linter.unusedSimpArgs false
set_option maxRecDepth 100000

set_option maxHeartbeats 4000000 in
theorem l07Count_c (A : Option Addr) (c : Nat) (L : List Bk) (b : Bk) (w : World) (hL : kBk.C w A L.length L) (hn : L.length ≤ 1000) : Calls Tryz.prog 53 #[.slice A L.length c, b.val] w (Ret w (.int .i64 ((cntB L b : Nat) : Int))) := by
  have hx := BkAt.box w b 44
  have hb0 : Below w.heap.size w (w.alloc (.cells #[.int .i16 b.c, .int .u8 b.m0, .int .u8 b.m1, .int .u8 b.m2, .int .i16 b.v, .int .i16 b.wd, .int .i16 b.h, .int .i16 b.wt] 44)) := balloc (Below.refl _ _) _
  have HL := Aside0.mk hL
  clear hL
  simp only [Bk.val]
  go_enter Tryz.func53, Tryz.ntmps53
  go_wp2
  generalize World.alloc w _ = W1 at hx hb0 ⊢
  have HX := Aside0.mk hx
  have HB := Aside0.mk hb0
  clear hx hb0
  go_loopg [5, 6] L.length (fun gk v5 v6 wr => ∃ k : Nat, k + gk = L.length ∧ v6 = .int .i64 k ∧ v5 = .int .i64 ((cntB (L.take k) b : Nat) : Int) ∧ Aside0 (Below W1.heap.size W1 wr))
  case atStart => exact ⟨0, by omega, rfl, rfl, ⟨Below.refl _ _⟩⟩
  case round =>
    obtain ⟨k, hk, rfl, rfl, hb⟩ := hrel
    have HK := Aside0.mk hk
    by_cases hlt : k < L.length
    · obtain ⟨ad, x, rfl, hbk, x0, x1, x2, x3, x4, x5, x6, x7⟩ := at_bk (Kd.C_below HL.out (bstep HB.out hb.out)) k (by omega)
      obtain ⟨y0, y1, y2, y3, y4, y5, y6, y7⟩ := HX.out.below hb.out
      have hcl : cntB (L.take k) b ≤ 1000 := Nat.le_trans (cntB_le _ _) (by rw [List.length_take]; omega)
      clear hk
      have i0 : (0 : Int) ≤ (k : Int) := by omega
      have i1 : (k : Int) < (L.length : Int) := by omega
      have hqn := arr3_eq x.m0 x.m1 x.m2 b.m0 b.m1 b.m2
      by_cases hbb : x = b
      · have HN := Aside0.mk (cntB_yes hbk.out hbb)
        subst hbb
        simp only [and_self, decide_true] at hqn
        generalize cntB (L.take k) x = m at HN hcl ⊢
        go_wp2_with fail
        go_still_tail 5, (by kernel_rfl)
        go_wp2
        go_roundg (gk - 1)
        case measure => have := HK.out; omega
        case rel => exact ⟨k + 1, by have := HK.out; omega, by go_num, by rw [HN.out]; go_num, ⟨bdrewN hb.out _⟩⟩
      · have HN := Aside0.mk (cntB_no hbk.out hbb)
        have HBB := Aside0.mk hbb
        clear hbb
        generalize cntB (L.take k) b = m at HN hcl ⊢
        go_wp2_with fail
        go_still_tail 5, (by kernel_rfl)
        go_wp2
        all_goals first
          | exact absurd (bk_same ‹x.c = b.c› ‹¬(x.m0 = b.m0 → x.m1 = b.m1 → ¬x.m2 = b.m2)› ‹x.v = b.v› ‹x.wd = b.wd› ‹x.h = b.h› ‹x.wt = b.wt›) HBB.out
          | (go_roundg (gk - 1)
             case measure => have := HK.out; omega
             case rel => exact ⟨k + 1, by have := HK.out; omega, by go_num, by rw [HN.out], ⟨bdrewN hb.out _⟩⟩)
    · have e9 : L.take k = L := List.take_of_length_le (by omega)
      rw [e9]
      clear hk e9
      go_wp2
      go_ret
      exact ⟨rfl, bstep HB.out hb.out⟩
set_option maxHeartbeats 1000000 in
theorem CountOf_c (A : Option Addr) (c : Nat) (L : List Bk) (b : Bk) (w : World) (hL : kBk.C w A L.length L) (hn : L.length ≤ 1000) : Calls Tryz.prog 18 #[.slice A L.length c, b.val] w (Ret w (.int .i64 ((cntB L b : Nat) : Int))) := by
  have hx := BkAt.box w b 44
  have hb0 : Below w.heap.size w (w.alloc (.cells #[.int .i16 b.c, .int .u8 b.m0, .int .u8 b.m1, .int .u8 b.m2, .int .i16 b.v, .int .i16 b.wd, .int .i16 b.h, .int .i16 b.wt] 44)) := balloc (Below.refl _ _) _
  have HS := Aside0.mk (fun W h => l07Count_c A c L b W h hn)
  have HL := Aside0.mk (Kd.C_below hL hb0)
  clear hL
  generalize ((cntB L b : Nat) : Int) = n at HS ⊢
  simp only [Bk.val] at HS ⊢
  go_enter Tryz.func18, Tryz.ntmps18
  go_wp2_with fail
  generalize World.alloc w _ = W1 at hx hb0 HL ⊢
  have HB := Aside0.mk hb0
  obtain ⟨y0, y1, y2, y3, y4, y5, y6, y7⟩ := hx
  clear hb0
  go_wp2_with fail
  refine (HS.out W1 HL.out).mono ?_; rintro _ w2 ⟨rfl, hb⟩
  have HB2 := Aside0.mk (bstep HB.out hb)
  clear hb y0 y1 y2 y3 y4 y5 y6 y7
  go_wp2
  go_ret
  exact ⟨rfl, HB2.out⟩
end Go.Proofs.YtkoaangakmpggaaGreatDoor
end
section
/- Drawing books from bytes: the source, a book, a list of books; the lists, orders and numbers of the laws on books. -/
namespace Go.Proofs.YtkoaangakmpggaaGreatDoor
open Go.RowKit Go.Proofs.YtkoaangakmpggaaGreatDoorW.PrintWords Go.Proofs.YtkoaangakmpggaaGreatDoorW.PrintMore
set_option linter.unusedVariables false
set_option linter.unusedSimpArgs false
set_option maxRecDepth 100000

theorem u64_wrap (n : Int) : IntKind.u64.wrap n = n % 18446744073709551616 := by simp [IntKind.wrap, IntKind.bits, IntKind.signed]
theorem u64_and255 {x : Int} (h0 : 0 ≤ x) (h1 : x < 18446744073709551616) : Go.bits .and .u64 x 255 = x % 256 :=
  bits_mask .u64 64 (by decide) (fun n h0 h1 => by rw [u64_wrap]; omega) 8 (by decide) x h0 h1
theorem wrap_suc' (n : Nat) (h : n ≤ 1000000) : IntKind.i64.wrap ((n : Int) + 1) = (n : Int) + 1 := by rw [IntKind.wrap_i64]; omega
/-- A source at block g: it has given at bytes of the text. -/
structure Src (w0 w : World) (g : Nat) (A : Option Addr) (c : Nat) (Cd : List Int) (at_ : Nat) : Prop where
  below : Below w0.heap.size w0 w
  base : w0.heap.size ≤ g
  code : (Kd.int .u8).C w0 A Cd.length Cd
  ok : ∀ x, x ∈ Cd → 0 ≤ x ∧ x ≤ 255
  blk : ∃ sd : Int, w.heap[g]? = some (.cells #[.slice A Cd.length c, .int .i64 at_, .int .u64 sd] 82 (0, 0)) ∧ 0 ≤ sd ∧ sd ≤ 18446744073709551615
theorem Src.step {w0 w w' : World} {g : Nat} {A : Option Addr} {c : Nat} {Cd : List Int} {at_ : Nat} (h : Src w0 w g A c Cd at_) (hb : Below w.heap.size w w') : Src w0 w' g A c Cd at_ := by
  obtain ⟨sd, h1, h2⟩ := h.blk
  exact ⟨bstep h.below hb, h.base, h.code, h.ok, sd, (hb.block g (Array.getElem?_eq_some_iff.1 h1).1).trans h1, h2⟩
theorem Src.lt {w0 w : World} {g : Nat} {A : Option Addr} {c : Nat} {Cd : List Int} {at_ : Nat} (h : Src w0 w g A c Cd at_) : g < w.heap.size := by
  obtain ⟨sd, h1, h2⟩ := h.blk
  exact (Array.getElem?_eq_some_iff.1 h1).1
/-- What else is written leaves the source as it was. -/
theorem Src.grown {w0 w w' : World} {g : Nat} {A : Option Addr} {c : Nat} {Cd : List Int} {at_ : Nat} {r : Option Nat} (h : Src w0 w g A c Cd at_) (hg : w.grownBy w' r) (hr : ∀ b, r = some b → g < b) : Src w0 w' g A c Cd at_ := by
  obtain ⟨sd, h1, h2⟩ := h.blk
  have hb := h.base
  exact ⟨pw_below_grown h.below r h.below.size hg (fun b e => by have := hr b e; omega), h.base, h.code, h.ok, sd, (hg.block g (Array.getElem?_eq_some_iff.1 h1).1 (fun e => by have := hr g e.symm; omega)).trans h1, h2⟩
/-- A number from lo to hi was drawn, with d bytes at most. -/
def Drew (w0 w : World) (g : Nat) (A : Option Addr) (c : Nat) (Cd : List Int) (at_ d : Nat) (lo hi : Int) (e : Ending) (w' : World) : Prop :=
  ∃ (r : Int) (a' : Nat), e = .returned (.int .i64 r) ∧ (lo ≤ r ∧ r ≤ hi) ∧ a' ≤ at_ + d ∧ Src w0 w' g A c Cd a' ∧ w.grownBy w' (some g)
theorem grown_put {w w1 : World} {g : Nat} (h : w.grownBy w1 (some g)) (i : Nat) (v : Value) : w.grownBy (w1.setCell ⟨g, i, none⟩ v) (some g) :=
  World.grownBy.trans h ⟨rfl, rfl, rfl, by simp, fun k _ hk => Below.heap_setCell w1 ⟨g, i, none⟩ _ k (fun e => hk (by rw [e]))⟩
theorem src_cells {w : World} {g : Nat} {A : Option Addr} {n c at_ : Nat} {sd : Int} (h : w.heap[g]? = some (.cells #[.slice A n c, .int .i64 at_, .int .u64 sd] 82 (0, 0))) :
    w.cell? ⟨g, 0, none⟩ = some (.slice A n c) ∧ w.cell? ⟨g, 1, none⟩ = some (.int .i64 at_) ∧ w.cell? ⟨g, 2, none⟩ = some (.int .u64 sd) ∧ w.frozen? ⟨g, 1, none⟩ = false ∧ w.frozen? ⟨g, 2, none⟩ = false :=
  ⟨(blk_cell h 0).trans rfl, (blk_cell h 1).trans rfl, (blk_cell h 2).trans rfl, blk_frozen h 1, blk_frozen h 2⟩
theorem bits255 {sd : Int} (h0 : 0 ≤ sd) (h1 : sd ≤ 18446744073709551615) : 0 ≤ Go.bits .and .u64 (sd / 1099511627776) 255 ∧ Go.bits .and .u64 (sd / 1099511627776) 255 ≤ 255 := by
  rw [u64_and255 (by omega) (by omega)]
  omega
theorem wrap_u64_bd (n : Int) : 0 ≤ IntKind.u64.wrap n ∧ IntKind.u64.wrap n ≤ 18446744073709551615 := by rw [u64_wrap]; omega
theorem grown_trans' {w w1 w2 : World} {r : Option Nat} (h : w.grownBy w1 r) (k : Below w1.heap.size w1 w2) : w.grownBy w2 r := World.grownBy.trans h (grown_of_below k r)
theorem src_new {w0 w w5 : World} {g : Nat} {A : Option Addr} {c : Nat} {Cd : List Int} {at_ : Nat} {S : Int} (h : Src w0 w g A c Cd at_) (hz : w5.heap[g]? = some (.cells #[.slice A Cd.length c, .int .i64 ((at_ : Int) + 1), .int .u64 S] 82 (0, 0))) (hS : 0 ≤ S ∧ S ≤ 18446744073709551615) (hg : w.grownBy w5 (some g)) : Src w0 w5 g A c Cd (at_ + 1) :=
  ⟨pw_below_grown h.below (some g) h.below.size hg (fun b e => by cases e; exact h.base), h.base, h.code, h.ok, S, by rw [show ((at_ + 1 : Nat) : Int) = (at_ : Int) + 1 by omega]; exact hz, hS.1, hS.2⟩
set_option maxHeartbeats 4000000 in
theorem next_c {w0 : World} {g : Nat} {A : Option Addr} {c : Nat} {Cd : List Int} {at_ : Nat} (hat : at_ ≤ 1000000) (w : World) (hs : Src w0 w g A c Cd at_) :
    Calls Tryz.prog 84 #[.pointer (some ⟨g, 0, none⟩)] w (Drew w0 w g A c Cd at_ 1 0 255) := by
  have hm := Kd.C_max hs.code
  obtain ⟨sd, hblk, hsd0, hsd1⟩ := hs.blk
  have HS := Aside0.mk hs
  have HG := Aside0.mk (fun W (h : Below w.heap.size w W) => (h.block g (Array.getElem?_eq_some_iff.1 hblk).1).trans hblk)
  have hwa := wrap_suc' at_ hat
  obtain ⟨y0, y1, y2, f1, f2⟩ := src_cells hblk
  have yO0 : ∀ p : Over w, _ := Over.cell y0
  have yO1 : ∀ p : Over w, _ := Over.cell y1
  have i0 : (0 : Int) ≤ (at_ : Int) := by omega
  by_cases hlt : at_ < Cd.length
  · obtain ⟨ad, x, rfl, hx, hxx⟩ := at_int' (Kd.C_below hs.code hs.below) at_ hlt
    have HXX := Aside0.mk hxx
    have HU := Aside0.mk (hs.ok x (mem_of hx.out))
    have d0 : decide ((at_ : Int) < (Cd.length : Int)) = true := decide_eq_true (by omega)
    have d0' : decide (at_ < Cd.length) = true := decide_eq_true hlt
    have d1 : decide ((at_ : Int) + 1 ≤ (Cd.length : Int)) = true := decide_eq_true (by omega)
    have d1' : decide (at_ + 1 ≤ Cd.length) = true := decide_eq_true (by omega)
    have i1 : (at_ : Int) < (Cd.length : Int) := by omega
    have hwx : wrap64 x = x := by have := HU.out; unfold wrap64; omega
    clear hs hblk hx hxx
    go_enter Tryz.func84, Tryz.ntmps84
    go_wp2_with fail
    refine region_over (by kernel_rfl) (by kernel_rfl) ?_
    repeat (go_big_quiet_step (fail))
    refine wpQuiet_nil ?_
    intro q1 hw'
    have hq_q1 := over_out hw'
    clear hw'
    have HQ1 := Aside0.mk hq_q1
    have hx1 := pw_cell_below hq_q1 HXX.out
    clear y0 y1 y2 f1 f2 yO0 yO1
    obtain ⟨y0, y1, y2, f1, f2⟩ := src_cells (HG.out _ hq_q1)
    have yO0 : ∀ p : Over q1, _ := Over.cell y0
    have yO1 : ∀ p : Over q1, _ := Over.cell y1
    have xO : ∀ p : Over q1, _ := Over.cell hx1
    clear hq_q1
    go_wp2_with fail
    refine region_over (by kernel_rfl) (by kernel_rfl) ?_
    repeat (go_big_quiet_step (fail))
    refine wpQuiet_nil ?_
    intro q2 hw'
    have hq_q2 := over_out hw'
    clear hw'
    have HQ2 := Aside0.mk (bstep HQ1.out hq_q2)
    clear y0 y1 y2 f1 f2 yO0 yO1 xO hx1 hq_q2
    obtain ⟨y0, y1, y2, f1, f2⟩ := src_cells (HG.out _ HQ2.out)
    have hp := blk_put (HG.out _ HQ2.out) 1 (.int .i64 ((at_ : Int) + 1)) rfl
    have c2 : (q2.setCell ⟨g, 1, none⟩ (.int .i64 ((at_ : Int) + 1))).cell? ⟨g, 2, none⟩ = some (.int .u64 sd) := (blk_cell hp 2).trans rfl
    have g2 := blk_frozen hp 2
    have HP := Aside0.mk hp
    clear hp
    go_wp2_with fail
    generalize hS5 : IntKind.u64.wrap (_ + 1442695040888963407) = S5
    have HS5 := Aside0.mk (show 0 ≤ S5 ∧ S5 ≤ 18446744073709551615 from by rw [← hS5]; exact wrap_u64_bd _)
    have hz := blk_put HP.out 2 (.int .u64 S5) rfl
    have hgr := grown_put (grown_put (grown_of_below HQ2.out (some g)) 1 (.int .i64 ((at_ : Int) + 1))) 2 (.int .u64 S5)
    clear hS5 y0 y1 y2 f1 f2 c2 g2 HP
    generalize World.setCell (World.setCell _ _ _) _ _ = w5 at hz hgr ⊢
    obtain ⟨y0, y1, y2, f1, f2⟩ := src_cells (at_ := at_ + 1) (by rw [show ((at_ + 1 : Nat) : Int) = (at_ : Int) + 1 by omega]; exact hz)
    rw [show ((at_ + 1 : Nat) : Int) = (at_ : Int) + 1 by omega] at y1
    have HSN := Aside0.mk (src_new HS.out hz HS5.out hgr)
    have HGR := Aside0.mk hgr
    have yO0 : ∀ p : Over w5, _ := Over.cell y0
    have yO1 : ∀ p : Over w5, _ := Over.cell y1
    clear hz hgr
    refine region_over (by kernel_rfl) (by kernel_rfl) ?_
    repeat (go_big_quiet_step (fail))
    refine wpQuiet_nil ?_
    intro q3 hw'
    have hq_q3 := over_out hw'
    clear hw'
    have HS3 := Aside0.mk (HSN.out.step hq_q3)
    have HG3 := Aside0.mk (grown_trans' HGR.out hq_q3)
    have hy2 := pw_cell_below hq_q3 y2
    clear y0 y1 y2 f1 f2 yO0 yO1 hq_q3
    go_wp2
    go_ret
    refine ⟨_, at_ + 1, rfl, ?_, by omega, HS3.out, HG3.out⟩
    first | exact HU.out | (rw [hwx]; exact HU.out) | (have := HU.out; unfold wrap64; omega)
  · have d0 : decide ((at_ : Int) < (Cd.length : Int)) = false := decide_eq_false (by omega)
    have d0' : decide (at_ < Cd.length) = false := decide_eq_false hlt
    have d1 : decide ((at_ : Int) + 1 ≤ (Cd.length : Int)) = false := decide_eq_false (by omega)
    have d1' : decide (at_ + 1 ≤ Cd.length) = false := decide_eq_false (by omega)
    clear hs hblk hlt
    go_enter Tryz.func84, Tryz.ntmps84
    go_wp2_with fail
    refine region_over (by kernel_rfl) (by kernel_rfl) ?_
    repeat (go_big_quiet_step (fail))
    refine wpQuiet_nil ?_
    intro q1 hw'
    have hq_q1 := over_out hw'
    clear hw'
    have HQ1 := Aside0.mk hq_q1
    clear y0 y1 y2 f1 f2 yO0 yO1 hq_q1
    obtain ⟨y0, y1, y2, f1, f2⟩ := src_cells (HG.out _ HQ1.out)
    have hp := blk_put (HG.out _ HQ1.out) 1 (.int .i64 ((at_ : Int) + 1)) rfl
    have c2 : (q1.setCell ⟨g, 1, none⟩ (.int .i64 ((at_ : Int) + 1))).cell? ⟨g, 2, none⟩ = some (.int .u64 sd) := (blk_cell hp 2).trans rfl
    have g2 := blk_frozen hp 2
    have HP := Aside0.mk hp
    clear hp
    go_wp2_with fail
    generalize hS5 : IntKind.u64.wrap (_ + 1442695040888963407) = S5
    have HS5 := Aside0.mk (show 0 ≤ S5 ∧ S5 ≤ 18446744073709551615 from by rw [← hS5]; exact wrap_u64_bd _)
    have hz := blk_put HP.out 2 (.int .u64 S5) rfl
    have hgr := grown_put (grown_put (grown_of_below HQ1.out (some g)) 1 (.int .i64 ((at_ : Int) + 1))) 2 (.int .u64 S5)
    clear hS5 y0 y1 y2 f1 f2 c2 g2 HP
    generalize World.setCell (World.setCell _ _ _) _ _ = w5 at hz hgr ⊢
    obtain ⟨y0, y1, y2, f1, f2⟩ := src_cells (at_ := at_ + 1) (by rw [show ((at_ + 1 : Nat) : Int) = (at_ : Int) + 1 by omega]; exact hz)
    rw [show ((at_ + 1 : Nat) : Int) = (at_ : Int) + 1 by omega] at y1
    have HSN := Aside0.mk (src_new HS.out hz HS5.out hgr)
    have HGR := Aside0.mk hgr
    have yO0 : ∀ p : Over w5, _ := Over.cell y0
    have yO1 : ∀ p : Over w5, _ := Over.cell y1
    clear hz hgr
    refine region_over (by kernel_rfl) (by kernel_rfl) ?_
    repeat (go_big_quiet_step (fail))
    refine wpQuiet_nil ?_
    intro q3 hw'
    have hq_q3 := over_out hw'
    clear hw'
    have HS3 := Aside0.mk (HSN.out.step hq_q3)
    have HG3 := Aside0.mk (grown_trans' HGR.out hq_q3)
    have hy2 := pw_cell_below hq_q3 y2
    clear y0 y1 y2 f1 f2 yO0 yO1 hq_q3
    have hb255 := bits255 HS5.out.1 HS5.out.2
    have hw255 : IntKind.i64.wrap (Go.bits .and .u64 (S5 / 1099511627776) 255) = Go.bits .and .u64 (S5 / 1099511627776) 255 := by rw [IntKind.wrap_i64]; omega
    go_wp2
    go_ret
    exact ⟨_, at_ + 1, rfl, hb255, by omega, HS3.out, HG3.out⟩
theorem Drew.weaken {w0 w w' : World} {g : Nat} {A : Option Addr} {c : Nat} {Cd : List Int} {at_ d d' : Nat} {lo hi lo' hi' : Int} {e : Ending} (h : Drew w0 w g A c Cd at_ d lo hi e w') (h1 : lo' ≤ lo) (h2 : hi ≤ hi') (h3 : d ≤ d') : Drew w0 w g A c Cd at_ d' lo' hi' e w' := by
  obtain ⟨r, a', he, hr, ha, hs, hg⟩ := h
  exact ⟨r, a', he, ⟨by omega, by omega⟩, by omega, hs, hg⟩
set_option maxHeartbeats 4000000 in
theorem pick_c {w0 : World} {g : Nat} {A : Option Addr} {c : Nat} {Cd : List Int} {at_ : Nat} (hat : at_ ≤ 999000) (n : Int) (hn0 : 0 ≤ n) (hn : n ≤ 10000) (w : World) (hs : Src w0 w g A c Cd at_) :
    Calls Tryz.prog 58 #[.pointer (some ⟨g, 0, none⟩), .int .i64 n] w (Drew w0 w g A c Cd at_ 2 0 (if n ≤ 1 then 0 else n - 1)) := by
  have HS := Aside0.mk hs
  by_cases h1 : n ≤ 1
  · rw [if_pos h1]
    clear hs
    go_enter Tryz.func58, Tryz.ntmps58
    go_wp2
    go_ret
    exact ⟨0, at_, rfl, by omega, by omega, HS.out, World.grownBy.refl _ _⟩
  · rw [if_neg h1]
    have HN := Aside0.mk (next_c (w0 := w0) (g := g) (A := A) (c := c) (Cd := Cd) (by omega) w hs)
    clear hs
    by_cases h2 : 200 < n
    · go_enter Tryz.func58, Tryz.ntmps58
      go_wp2_with fail
      refine HN.out.mono ?_; rintro _ w1 ⟨x, a1, rfl, hx, ha1, hs1, hg1⟩
      have HG1 := Aside0.mk hg1
      have HN2 := Aside0.mk (next_c (w0 := w0) (g := g) (A := A) (c := c) (Cd := Cd) (by omega) w1 hs1)
      obtain ⟨x0, x1⟩ := hx
      have hw1 : IntKind.i64.wrap (x * 256) = x * 256 := by rw [IntKind.wrap_i64]; omega
      clear hs1 hg1
      go_wp2_with fail
      refine HN2.out.mono ?_; rintro _ w2 ⟨y, a2, rfl, hy, ha2, hs2, hg2⟩
      obtain ⟨z0, z1⟩ := hy
      have HS2 := Aside0.mk hs2
      have HG2 := Aside0.mk (World.grownBy.trans HG1.out hg2)
      have hw2 : IntKind.i64.wrap (x * 256 + y) = x * 256 + y := by rw [IntKind.wrap_i64]; omega
      have e2 := Int.emod_nonneg (x * 256 + y) (b := n) (by omega)
      have e3 := Int.emod_lt_of_pos (x * 256 + y) (b := n) (by omega)
      have hn1 : ¬ (n = 0) := by omega
      clear hs2 hg2
      go_wp2
      go_ret
      exact ⟨_, a2, rfl, ⟨by omega, by omega⟩, by omega, HS2.out, HG2.out⟩
    · go_enter Tryz.func58, Tryz.ntmps58
      go_wp2_with fail
      refine HN.out.mono ?_; rintro _ w1 ⟨x, a1, rfl, hx, ha1, hs1, hg1⟩
      have HG1 := Aside0.mk hg1
      have HS1 := Aside0.mk hs1
      obtain ⟨x0, x1⟩ := hx
      have e2 := Int.emod_nonneg x (b := n) (by omega)
      have e3 := Int.emod_lt_of_pos x (b := n) (by omega)
      have hn1 : ¬ (n = 0) := by omega
      clear hs1 hg1
      go_wp2
      go_ret
      exact ⟨_, a1, rfl, ⟨by omega, by omega⟩, by omega, HS1.out, HG1.out⟩
/-- Once in n times. -/
def DrewB (w0 w : World) (g : Nat) (A : Option Addr) (c : Nat) (Cd : List Int) (at_ d : Nat) (e : Ending) (w' : World) : Prop :=
  ∃ (b : Bool) (a' : Nat), e = .returned (.bool b) ∧ a' ≤ at_ + d ∧ Src w0 w' g A c Cd a' ∧ w.grownBy w' (some g)
set_option maxHeartbeats 2000000 in
theorem one_c {w0 : World} {g : Nat} {A : Option Addr} {c : Nat} {Cd : List Int} {at_ : Nat} (hat : at_ ≤ 999000) (w : World) (hs : Src w0 w g A c Cd at_) :
    Calls Tryz.prog 31 #[.pointer (some ⟨g, 0, none⟩), .int .i64 2] w (DrewB w0 w g A c Cd at_ 2) := by
  have HP := Aside0.mk (pick_c (w0 := w0) (g := g) (A := A) (c := c) (Cd := Cd) hat 2 (by omega) (by omega) w hs)
  clear hs
  go_enter Tryz.func31, Tryz.ntmps31
  go_wp2_with fail
  refine HP.out.mono ?_; rintro _ w1 ⟨x, a1, rfl, hx, ha1, hs1, hg1⟩
  have HG1 := Aside0.mk hg1
  have HS1 := Aside0.mk hs1
  clear hs1 hg1 hx
  go_wp2
  go_ret
  exact ⟨_, a1, rfl, ha1, HS1.out, HG1.out⟩
/-- One of some numbers. -/
def DrewIn (w0 w : World) (g : Nat) (A : Option Addr) (c : Nat) (Cd : List Int) (at_ d : Nat) (L : List Int) (e : Ending) (w' : World) : Prop :=
  ∃ (r : Int) (a' : Nat), e = .returned (.int .i64 r) ∧ r ∈ L ∧ a' ≤ at_ + d ∧ Src w0 w' g A c Cd a' ∧ w.grownBy w' (some g)
/-- A valid book was drawn. -/
def DrewBk (w0 w : World) (g : Nat) (A : Option Addr) (c : Nat) (Cd : List Int) (at_ d : Nat) (e : Ending) (w' : World) : Prop :=
  ∃ (b : Bk) (a' : Nat), e = .returned b.val ∧ vBook b = true ∧ b.ok ∧ a' ≤ at_ + d ∧ Src w0 w' g A c Cd a' ∧ w.grownBy w' (some g)
theorem blk_grown {w w' : World} {r : Option Nat} {p : Nat} {o : Obj} (h : w.heap[p]? = some o) (hg : w.grownBy w' r) (hne : some p ≠ r) : w'.heap[p]? = some o :=
  (hg.block p (Array.getElem?_eq_some_iff.1 h).1 hne).trans h
theorem grown_set (w : World) (p i : Nat) (v : Value) : w.grownBy (w.setCell ⟨p, i, none⟩ v) (some p) :=
  ⟨rfl, rfl, rfl, by simp, fun k _ hk => Below.heap_setCell w ⟨p, i, none⟩ _ k (fun e => hk (by rw [e]))⟩
theorem grown_new {w w1 : World} {r : Option Nat} (h : w.grownBy w1 r) {p : Nat} (hp : w.heap.size ≤ p) (i : Nat) (v : Value) : w.grownBy (w1.setCell ⟨p, i, none⟩ v) r :=
  ⟨h.os, h.tape, h.output, by have := h.size; simpa using this, fun k hk hne => (Below.heap_setCell w1 ⟨p, i, none⟩ _ k (show k ≠ p by omega)).trans (h.block k hk hne)⟩
/-- A result's block and a block in the making, with a source. -/
structure OneS (w0 w : World) (g : Nat) (A : Option Addr) (c : Nat) (Cd : List Int) (t : TypeId) (R : Nat) (cr : Array Value) (P : Nat) (cs : Array Value) (at_ : Nat) (W : World) : Prop where
  src : Src w0 W g A c Cd at_
  gr : w.grownBy W (some g)
  r : W.heap[R]? = some (.cells cr t (0, 0))
  p : W.heap[P]? = some (.cells cs t (0, 0))
  gR : g < R
  gP : g < P
  rP : R < P
  wP : w.heap.size ≤ R
theorem OneS.pick {w0 w W W' : World} {g : Nat} {A : Option Addr} {c : Nat} {Cd : List Int} {t : TypeId} {R P : Nat} {cr cs : Array Value} {at_ a' : Nat} (h : OneS w0 w g A c Cd t R cr P cs at_ W) (hs : Src w0 W' g A c Cd a') (hg : W.grownBy W' (some g)) : OneS w0 w g A c Cd t R cr P cs a' W' :=
  ⟨hs, World.grownBy.trans h.gr hg, blk_grown h.r hg (fun e => by have := h.gR; have := Option.some.inj e; omega), blk_grown h.p hg (fun e => by have := h.gP; have := Option.some.inj e; omega), h.gR, h.gP, h.rP, h.wP⟩
theorem OneS.put {w0 w W : World} {g : Nat} {A : Option Addr} {c : Nat} {Cd : List Int} {t : TypeId} {R P : Nat} {cr cs : Array Value} {at_ : Nat} (h : OneS w0 w g A c Cd t R cr P cs at_ W) (i : Nat) (v : Value) {cs' : Array Value} (e : cs.setIfInBounds i v = cs') : OneS w0 w g A c Cd t R cr P cs' at_ (W.setCell ⟨P, i, none⟩ v) :=
  ⟨h.src.grown (grown_set W P i v) (fun b e => by cases e; exact h.gP), grown_new h.gr (by have := h.wP; have := h.rP; omega) i v, (Below.heap_setCell W ⟨P, i, none⟩ _ R (by have := h.rP; show R ≠ P; omega)).trans h.r, blk_put h.p i v e, h.gR, h.gP, h.rP, h.wP⟩
theorem OneS.putR {w0 w W : World} {g : Nat} {A : Option Addr} {c : Nat} {Cd : List Int} {t : TypeId} {R P : Nat} {cr cs : Array Value} {at_ : Nat} (h : OneS w0 w g A c Cd t R cr P cs at_ W) (i : Nat) (v : Value) {cr' : Array Value} (e : cr.setIfInBounds i v = cr') : OneS w0 w g A c Cd t R cr' P cs at_ (W.setCell ⟨R, i, none⟩ v) :=
  ⟨h.src.grown (grown_set W R i v) (fun b e => by cases e; exact h.gR), grown_new h.gr h.wP i v, blk_put h.r i v e, (Below.heap_setCell W ⟨R, i, none⟩ _ P (by have := h.rP; show P ≠ R; omega)).trans h.p, h.gR, h.gP, h.rP, h.wP⟩
theorem OneS.step {w0 w W W' : World} {g : Nat} {A : Option Addr} {c : Nat} {Cd : List Int} {t : TypeId} {R P : Nat} {cr cs : Array Value} {at_ : Nat} (h : OneS w0 w g A c Cd t R cr P cs at_ W) (hb : Below W.heap.size W W') : OneS w0 w g A c Cd t R cr P cs at_ W' :=
  ⟨h.src.step hb, grown_trans' h.gr hb, blk_below h.r hb, blk_below h.p hb, h.gR, h.gP, h.rP, h.wP⟩
theorem cells8 {W : World} {P : Nat} {a b c d e f g h : Value} {t : TypeId} (hp : W.heap[P]? = some (.cells #[a, b, c, d, e, f, g, h] t (0, 0))) :
    (W.cell? ⟨P, 0, none⟩ = some a ∧ W.cell? ⟨P, 1, none⟩ = some b ∧ W.cell? ⟨P, 2, none⟩ = some c ∧ W.cell? ⟨P, 3, none⟩ = some d ∧ W.cell? ⟨P, 4, none⟩ = some e ∧ W.cell? ⟨P, 5, none⟩ = some f ∧ W.cell? ⟨P, 6, none⟩ = some g ∧ W.cell? ⟨P, 7, none⟩ = some h) ∧ ∀ i, W.frozen? ⟨P, i, none⟩ = false :=
  ⟨⟨(blk_cell hp 0).trans rfl, (blk_cell hp 1).trans rfl, (blk_cell hp 2).trans rfl, (blk_cell hp 3).trans rfl, (blk_cell hp 4).trans rfl, (blk_cell hp 5).trans rfl, (blk_cell hp 6).trans rfl, (blk_cell hp 7).trans rfl⟩, blk_frozen hp⟩
theorem mark_put {w0 w W : World} {g : Nat} {A : Option Addr} {c : Nat} {Cd : List Int} {t : TypeId} {R P : Nat} {cr : Array Value} {a m0 m1 m2 v x y z : Value} {at_ : Nat} (h : OneS w0 w g A c Cd t R cr P #[a, m0, m1, m2, v, x, y, z] at_ W) {i : Nat} (hi : i < 3) (u : Value) :
    ∃ n0 n1 n2, (n0 = m0 ∨ n0 = u) ∧ (n1 = m1 ∨ n1 = u) ∧ (n2 = m2 ∨ n2 = u) ∧ OneS w0 w g A c Cd t R cr P #[a, n0, n1, n2, v, x, y, z] at_ (W.setCell ⟨P, 1 + i, none⟩ u) := by
  match i, hi with
  | 0, _ => exact ⟨_, _, _, .inr rfl, .inl rfl, .inl rfl, h.put 1 u rfl⟩
  | 1, _ => exact ⟨_, _, _, .inl rfl, .inr rfl, .inl rfl, h.put 2 u rfl⟩
  | 2, _ => exact ⟨_, _, _, .inl rfl, .inl rfl, .inr rfl, h.put 3 u rfl⟩
set_option maxHeartbeats 8000000 in
theorem l01One_c {w0 : World} {g : Nat} {A : Option Addr} {c : Nat} {Cd : List Int} {at_ : Nat} (hat : at_ ≤ 900000) (w : World) (hs : Src w0 w g A c Cd at_) :
    Calls Tryz.prog 59 #[.pointer (some ⟨g, 0, none⟩)] w (DrewBk w0 w g A c Cd at_ 14) := by
  have hgl := hs.lt
  obtain ⟨zb, hzb⟩ : ∃ z : Array Value, #[.int .i16 0, .int .u8 0, .int .u8 0, .int .u8 0, .int .i16 0, .int .i16 0, .int .i16 0, .int .i16 0] = z := ⟨_, rfl⟩
  have HZB := Aside0.mk hzb
  have HS0 := Aside0.mk (fun W (e : w.alloc (.cells zb 44) = W) => (show Src w0 W g A c Cd at_ ∧ W.heap[w.heap.size]? = some (.cells zb 44 (0, 0)) ∧ w.grownBy W (some g) ∧ W.heap.size = w.heap.size + 1 from by subst e; exact ⟨hs.step (balloc (Below.refl _ _) _), blk_new w _, grown_of_below (balloc (Below.refl w.heap.size w) _) (some g), by simp⟩))
  clear hs
  go_enter Tryz.func59, Tryz.ntmps59
  go_wp2_with fail
  clear hzb
  generalize hW1 : w.alloc (.cells zb 44) = W1
  obtain ⟨hs1, hr1, hg1, hz1⟩ := HS0.out W1 hW1
  clear hW1 HS0
  refine (pick_c (by omega) 8 (by omega) (by omega) _ hs1).mono ?_; rintro _ w2 ⟨x1, a1, rfl, hx1, ha1, hs2, hg2⟩
  have HR2 := Aside0.mk (blk_grown hr1 hg2 (fun e => by have := Option.some.inj e; omega))
  have HG2 := Aside0.mk (World.grownBy.trans hg1 hg2)
  have hz2 := hg2.size
  have HS2 := Aside0.mk hs2
  obtain ⟨p0, p1⟩ := hx1
  have hw1 : IntKind.i64.wrap (x1 * 100) = x1 * 100 := by rw [IntKind.wrap_i64]; omega
  have hw2 : IntKind.i16.wrap (x1 * 100) = x1 * 100 := by simp only [IntKind.wrap, IntKind.bits, IntKind.signed]; simp; omega
  clear hs1 hr1 hg1 hs2 hg2
  go_wp2_with fail
  refine (pick_c (by omega) 3 (by omega) (by omega) _ HS2.out).mono ?_; rintro _ w3 ⟨x2, a2, rfl, hx2, ha2, hs3, hg3⟩
  have hr3 := blk_grown HR2.out hg3 (fun e => by have := Option.some.inj e; omega)
  have hG3 := World.grownBy.trans HG2.out hg3
  have hz3 := hg3.size
  obtain ⟨q0, q1⟩ := hx2
  have hw3 : IntKind.i64.wrap (1 + x2) = 1 + x2 := by rw [IntKind.wrap_i64]; omega
  have hw4 : IntKind.i16.wrap (1 + x2) = 1 + x2 := by simp only [IntKind.wrap, IntKind.bits, IntKind.signed]; simp; omega
  have HO3 := Aside0.mk (show OneS w0 w g A c Cd 44 w.heap.size zb w3.heap.size #[.int .i16 (x1 * 100), .int .u8 0, .int .u8 0, .int .u8 0, .int .i16 (1 + x2), .int .i16 0, .int .i16 0, .int .i16 0] a2 (w3.alloc (.cells #[.int .i16 (x1 * 100), .int .u8 0, .int .u8 0, .int .u8 0, .int .i16 (1 + x2), .int .i16 0, .int .i16 0, .int .i16 0] 44)) from
    ⟨hs3.step (balloc (Below.refl _ _) _), grown_trans' hG3 (balloc (Below.refl _ _) _), blk_alloc hr3 _, blk_new w3 _, by omega, by omega, by omega, Nat.le_refl _⟩)
  clear hs3 hg3 hr3 hG3 HR2 HG2 HS2
  go_wp2_with fail
  generalize hP : w3.heap.size = P at HO3 ⊢
  generalize World.alloc w3 _ = w4 at HO3 ⊢
  clear hP hz1 hz2 hz3
  obtain ⟨⟨c0, c1, c2, c3, c4, c5, c6, c7⟩, fz⟩ := cells8 HO3.out.p
  have HO4 := Aside0.mk (((HO3.out.put 1 (.int .u8 97) rfl).put 2 (.int .u8 97) rfl).put 3 (.int .u8 97) rfl)
  refine wp_loop_rounds 4 ?_
  iterate 4 (rw [rounds_succ]; go_wp2_with fail)
  clear c0 c1 c2 c3 c4 c5 c6 c7 fz
  generalize World.setCell (World.setCell (World.setCell _ _ _) _ _) _ _ = w5 at HO4 ⊢
  refine (pick_c (by omega) 3 (by omega) (by omega) _ HO4.out.src).mono ?_; rintro _ w6 ⟨x3, a3, rfl, hx3, ha3, hs6, hg6⟩
  have HO6 := Aside0.mk (HO4.out.pick hs6 hg6)
  obtain ⟨r0, r1⟩ := hx3
  clear hs6 hg6
  go_wp2_with fail
  refine (pick_c (by omega) 3 (by omega) (by omega) _ HO6.out.src).mono ?_; rintro _ w7 ⟨x4, a4, rfl, hx4, ha4, hs7, hg7⟩
  have HO7 := Aside0.mk (HO6.out.pick hs7 hg7)
  obtain ⟨i, rfl⟩ := Int.eq_ofNat_of_zero_le r0
  obtain ⟨t0, t1⟩ := hx4
  have hw5 : IntKind.i64.wrap (97 + x4) = 97 + x4 := by rw [IntKind.wrap_i64]; omega
  have hw6 : IntKind.u8.wrap (97 + x4) = 97 + x4 := by rw [IntKind.wrap_u8]; omega
  have hi3 : i < 3 := by simp at r1; omega
  obtain ⟨m0, m1, m2, hm0, hm1, hm2, hO8⟩ := mark_put HO7.out hi3 (.int .u8 (97 + x4))
  have HO8 := Aside0.mk hO8
  have fi := blk_frozen HO7.out.p (1 + i)
  have ci : w7.cell? ⟨P, 1 + i, none⟩ = some (.int .u8 97) := by
    refine (blk_cell HO7.out.p (1 + i)).trans ?_
    match i, hi3 with
    | 0, _ => rfl
    | 1, _ => rfl
    | 2, _ => rfl
  have i0 : (0 : Int) ≤ (i : Int) := by omega
  have i1 : (i : Int) < 3 := by omega
  clear hs7 hg7 hO8 r0 r1
  go_wp2_with fail
  clear fi ci
  generalize World.setCell w7 _ _ = w8 at HO8 ⊢
  obtain ⟨y0, rfl, hy0⟩ : ∃ y, m0 = .int .u8 y ∧ 97 ≤ y ∧ y ≤ 99 := by rcases hm0 with h | h; exact ⟨97, h, by omega, by omega⟩; exact ⟨97 + x4, h, by omega, by omega⟩
  obtain ⟨y1, rfl, hy1⟩ : ∃ y, m1 = .int .u8 y ∧ 97 ≤ y ∧ y ≤ 99 := by rcases hm1 with h | h; exact ⟨97, h, by omega, by omega⟩; exact ⟨97 + x4, h, by omega, by omega⟩
  obtain ⟨y2, rfl, hy2⟩ : ∃ y, m2 = .int .u8 y ∧ 97 ≤ y ∧ y ≤ 99 := by rcases hm2 with h | h; exact ⟨97, h, by omega, by omega⟩; exact ⟨97 + x4, h, by omega, by omega⟩
  clear hm0 hm1 hm2 hw5 hw6
  refine (pick_c (by omega) 9 (by omega) (by omega) _ HO8.out.src).mono ?_; rintro _ w9 ⟨x5, a5, rfl, hx5, ha5, hs9, hg9⟩
  have HO9 := Aside0.mk (HO8.out.pick hs9 hg9)
  obtain ⟨u0, u1⟩ := hx5
  have hv1 : IntKind.i64.wrap (5 * x5) = 5 * x5 := by rw [IntKind.wrap_i64]; omega
  have hv2 : IntKind.i64.wrap (10 + 5 * x5) = 10 + 5 * x5 := by rw [IntKind.wrap_i64]; omega
  have hv3 : IntKind.i16.wrap (10 + 5 * x5) = 10 + 5 * x5 := by simp only [IntKind.wrap, IntKind.bits, IntKind.signed]; simp; omega
  have HO10 := Aside0.mk (HO9.out.put 5 (.int .i16 (10 + 5 * x5)) rfl)
  obtain ⟨⟨c0, c1, c2, c3, c4, c5, c6, c7⟩, fz⟩ := cells8 HO9.out.p
  clear hs9 hg9
  go_wp2_with fail
  clear c0 c1 c2 c3 c4 c5 c6 c7 fz hv1 hv2 hv3
  generalize World.setCell w9 _ _ = w10 at HO10 ⊢
  refine (pick_c (by omega) 12 (by omega) (by omega) _ HO10.out.src).mono ?_; rintro _ w11 ⟨x6, a6, rfl, hx6, ha6, hs11, hg11⟩
  have HO11 := Aside0.mk (HO10.out.pick hs11 hg11)
  obtain ⟨v0, v1⟩ := hx6
  have hv1 : IntKind.i64.wrap (10 * x6) = 10 * x6 := by rw [IntKind.wrap_i64]; omega
  have hv2 : IntKind.i64.wrap (180 + 10 * x6) = 180 + 10 * x6 := by rw [IntKind.wrap_i64]; omega
  have hv3 : IntKind.i16.wrap (180 + 10 * x6) = 180 + 10 * x6 := by simp only [IntKind.wrap, IntKind.bits, IntKind.signed]; simp; omega
  have HO12 := Aside0.mk (HO11.out.put 6 (.int .i16 (180 + 10 * x6)) rfl)
  obtain ⟨⟨c0, c1, c2, c3, c4, c5, c6, c7⟩, fz⟩ := cells8 HO11.out.p
  clear hs11 hg11
  go_wp2_with fail
  clear c0 c1 c2 c3 c4 c5 c6 c7 fz hv1 hv2 hv3
  generalize World.setCell w11 _ _ = w12 at HO12 ⊢
  refine (pick_c (by omega) 20 (by omega) (by omega) _ HO12.out.src).mono ?_; rintro _ w13 ⟨x7, a7, rfl, hx7, ha7, hs13, hg13⟩
  have HO13 := Aside0.mk (HO12.out.pick hs13 hg13)
  obtain ⟨s0, s1⟩ := hx7
  have hv1 : IntKind.i64.wrap (1 + x7) = 1 + x7 := by rw [IntKind.wrap_i64]; omega
  have hv2 : IntKind.i64.wrap ((1 + x7) * 100) = (1 + x7) * 100 := by rw [IntKind.wrap_i64]; omega
  have hv2' : IntKind.i64.wrap (100 * (1 + x7)) = 100 * (1 + x7) := by rw [IntKind.wrap_i64]; omega
  have hv3 : IntKind.i16.wrap (100 * (1 + x7)) = 100 * (1 + x7) := by simp only [IntKind.wrap, IntKind.bits, IntKind.signed]; simp; omega
  have HO14 := Aside0.mk (HO13.out.put 7 (.int .i16 (100 * (1 + x7))) rfl)
  obtain ⟨⟨c0, c1, c2, c3, c4, c5, c6, c7⟩, fz⟩ := cells8 HO13.out.p
  obtain ⟨⟨d0, d1, d2, d3, d4, d5, d6, d7⟩, dz⟩ := cells8 HO14.out.p
  have hr14 := HO14.out.r
  rw [← HZB.out] at hr14
  obtain ⟨⟨e0, e1, e2, e3, e4, e5, e6, e7⟩, ez⟩ := cells8 hr14
  have HO15 := Aside0.mk ((((((((HO14.out.putR 0 (.int .i16 (x1 * 100)) rfl).putR 1 (.int .u8 y0) rfl).putR 2 (.int .u8 y1) rfl).putR 3 (.int .u8 y2) rfl).putR 4 (.int .i16 (1 + x2)) rfl).putR 5 (.int .i16 (10 + 5 * x5)) rfl).putR 6 (.int .i16 (180 + 10 * x6)) rfl).putR 7 (.int .i16 (100 * (1 + x7))) rfl)
  clear hs13 hg13 hr14
  go_wp2_with fail
  clear c0 c1 c2 c3 c4 c5 c6 c7 fz d0 d1 d2 d3 d4 d5 d6 d7 dz e0 e1 e2 e3 e4 e5 e6 e7 ez hv1 hv2 hv2' hv3
  generalize World.setCell (World.setCell (World.setCell (World.setCell (World.setCell (World.setCell (World.setCell (World.setCell (World.setCell w13 _ _) _ _) _ _) _ _) _ _) _ _) _ _) _ _) _ _ = w15 at HO15 ⊢
  have hr15 := HO15.out.r
  rw [← HZB.out] at hr15
  obtain ⟨⟨e0, e1, e2, e3, e4, e5, e6, e7⟩, ez⟩ := cells8 hr15
  have hvb : vBook ⟨x1 * 100, y0, y1, y2, 1 + x2, 10 + 5 * x5, 180 + 10 * x6, 100 * (1 + x7)⟩ = true := by
    unfold vBook vMark
    simp only [Bool.and_eq_true, inR_iff]
    omega
  have hok : (⟨x1 * 100, y0, y1, y2, 1 + x2, 10 + 5 * x5, 180 + 10 * x6, 100 * (1 + x7)⟩ : Bk).ok := by
    unfold Bk.ok I16 U8
    simp only
    omega
  exact bodyPost_ret (v := (⟨x1 * 100, y0, y1, y2, 1 + x2, 10 + 5 * x5, 180 + 10 * x6, 100 * (1 + x7)⟩ : Bk).val) (by simp [results, Tryz.results59, go_sem, e0, e1, e2, e3, e4, e5, e6, e7, Bk.val]) rfl ⟨_, a7, rfl, hvb, hok, by omega, HO15.out.src, HO15.out.gr⟩
def VB (L : List Bk) : Prop := ∀ b, b ∈ L → vBook b = true ∧ b.ok
theorem usualL_ordZ : OrdOk usualL := by
  intro x hx
  refine ⟨usualL_ok x hx, ?_⟩
  simp only [usualL, List.mem_cons, List.not_mem_nil, or_false] at hx
  omega
theorem bk_keep {w w' : World} {base g : Nat} {v : Value} {L : List Bk} (h : kBk.R 44 w base (fun _ => True) v L) (hg : w.grownBy w' (some g)) (hb : g < base) : kBk.R 44 w' base (fun _ => True) v L :=
  Kd.R_mono (Kd.R_grown (Kd.R_tight kBk_E h) hg (fun k hk he => by have := Kd.R_base h k hk.symm; have := Option.some.inj he; omega)) (fun _ _ => trivial)
theorem grown_in {w w1 w2 : World} {r q : Option Nat} (h : w.grownBy w1 r) (hg : w1.grownBy w2 q) (hq : ∀ b, q = some b → w.heap.size ≤ b) : w.grownBy w2 r :=
  ⟨hg.os.trans h.os, hg.tape.trans h.tape, hg.output.trans h.output, Nat.le_trans h.size hg.size, fun k hk hne => (hg.block k (Nat.lt_of_lt_of_le hk h.size) (fun e => by have := hq k e.symm; omega)).trans (h.block k hk hne)⟩
section
variable {ops : Array Oper} {rest : List Oper} {o : Oper} {a : Act} {Q : Exit → Act → World → Prop}
theorem bk_app {W : World} (base : Nat) (hbase : base ≤ W.heap.size) (hgd : o.guard = none) (s x : Operand) (ho : o.op = .call { callee := .builtin .append, args := #[s, x], argTypes := #[24, 24] }) (v : Value) (xs : List Bk) (b : Bk)
    (hs : a.eval s = v) (hx : a.eval x = .slice (some ⟨W.heap.size, 0, none⟩) 1 1) (HO : kBk.R 44 W base (fun _ => True) v xs) (hl : xs.length ≤ 2097152)
    (h : ∀ v1 w1, kBk.R 44 w1 base (fun _ => True) v1 (xs ++ [b]) → W.grownBy w1 v.ownBlock → wpList Tryz.prog ops Q rest (a.put o.dst v1) w1) :
    wpList Tryz.prog ops Q (o :: rest) a (W.alloc (.cells (Bk.cells b).toArray 44)) :=
  Kd.R_append kBk (w0 := W) base hgd s x 24 44 (.agg #[.int .i16 0, .int .u8 0, .int .u8 0, .int .u8 0, .int .i16 0, .int .i16 0, .int .i16 0, .int .i16 0]) 14 ho Tryz.underlying24 info_bk rfl (by decide) (by decide) v xs b (Bk.cells b) (fun _ => True) (fun _ => False) hs hx rfl (fun _ h => h.elim) (fun _ _ => trivial) HO (Below.refl _ _) hbase (by omega)
    (fun v1 w1 h1 h2 h3 _ => h v1 w1 h1 h3)
end
/-- A row of valid books since w, with a source. -/
structure RowS (w0 w : World) (g : Nat) (A : Option Addr) (c : Nat) (Cd : List Int) (v : Value) (L : List Bk) (at_ : Nat) (W : World) : Prop where
  src : Src w0 W g A c Cd at_
  gr : w.grownBy W (some g)
  row : kBk.R 44 W w.heap.size (fun _ => True) v L
  ok : VB L
  gw : g < w.heap.size
section
variable {w0 w W W' : World} {g : Nat} {A : Option Addr} {c : Nat} {Cd : List Int} {v v' : Value} {L L' : List Bk} {at_ a' : Nat}
theorem RowS.pick (h : RowS w0 w g A c Cd v L at_ W) (hs : Src w0 W' g A c Cd a') (hg : W.grownBy W' (some g)) : RowS w0 w g A c Cd v L a' W' :=
  ⟨hs, World.grownBy.trans h.gr hg, bk_keep h.row hg h.gw, h.ok, h.gw⟩
theorem RowS.step (h : RowS w0 w g A c Cd v L at_ W) (hb : Below W.heap.size W W') : RowS w0 w g A c Cd v L at_ W' :=
  ⟨h.src.step hb, grown_trans' h.gr hb, Kd.R_below h.row hb, h.ok, h.gw⟩
/-- The row was written, or laid anew. -/
theorem RowS.wrote (h : RowS w0 w g A c Cd v L at_ W) (hr : kBk.R 44 W' w.heap.size (fun _ => True) v' L') (ho : VB L') (hg : W.grownBy W' v.ownBlock) : RowS w0 w g A c Cd v' L' at_ W' := by
  have hb := Kd.R_base h.row
  have hgw := h.gw
  exact ⟨h.src.grown hg (fun b e => by have := hb b e; omega), grown_in h.gr hg hb, hr, ho, hgw⟩
end
theorem VB.snoc {L : List Bk} {b : Bk} (h : VB L) (h1 : vBook b = true) (h2 : b.ok) : VB (L ++ [b]) := fun x hx => by
  rcases List.mem_append.1 hx with hx | hx
  · exact h x hx
  · rw [List.mem_singleton.1 hx]; exact ⟨h1, h2⟩
theorem VB.set {L : List Bk} {b : Bk} {i : Nat} (h : VB L) (hb : b ∈ L) : VB (L.set i b) := fun x hx => by
  rcases List.mem_or_eq_of_mem_set hx with hx | rfl
  · exact h x hx
  · exact h _ hb
theorem VB.set' {L M : List Bk} {b : Bk} {i : Nat} (h : VB L) (hb : b ∈ M) (hM : VB M) : VB (L.set i b) := fun x hx => by
  rcases List.mem_or_eq_of_mem_set hx with hx | rfl
  · exact h x hx
  · exact hM _ hb
theorem bkAt_grown {w w' : World} {p : Addr} {b : Bk} {r : Option Nat} (h : BkAt w p b) (hg : w.grownBy w' r) (hne : ∀ k, r = some k → p.block ≠ k) : BkAt w' p b := by
  obtain ⟨c0, c1, c2, c3, c4, c5, c6, c7⟩ := h
  have hb : w'.heap[p.block]? = w.heap[p.block]? := hg.block p.block (World.block_lt_of_cell? w p c0) (fun e => hne p.block e.symm rfl)
  exact ⟨(World.cell?_of_block (w := w) (a := p) hb).trans c0, (World.cell?_of_block (w := w) (a := ⟨p.block, p.off + 1, none⟩) hb).trans c1, (World.cell?_of_block (w := w) (a := ⟨p.block, p.off + 2, none⟩) hb).trans c2, (World.cell?_of_block (w := w) (a := ⟨p.block, p.off + 3, none⟩) hb).trans c3, (World.cell?_of_block (w := w) (a := ⟨p.block, p.off + 4, none⟩) hb).trans c4, (World.cell?_of_block (w := w) (a := ⟨p.block, p.off + 5, none⟩) hb).trans c5, (World.cell?_of_block (w := w) (a := ⟨p.block, p.off + 6, none⟩) hb).trans c6, (World.cell?_of_block (w := w) (a := ⟨p.block, p.off + 7, none⟩) hb).trans c7⟩
def DrewL (w0 w : World) (g : Nat) (A : Option Addr) (c : Nat) (Cd : List Int) (e : Ending) (w' : World) : Prop :=
  ∃ v L a', e = .returned v ∧ L.length ≤ 11 ∧ RowS w0 w g A c Cd v L a' w'
set_option maxHeartbeats 8000000 in
theorem l01Drawn_c {w0 : World} {g : Nat} {A : Option Addr} {c : Nat} {Cd : List Int} {at_ : Nat} (hat : at_ ≤ 1000) (w : World) (hs : Src w0 w g A c Cd at_) :
    Calls Tryz.prog 29 #[.pointer (some ⟨g, 0, none⟩)] w (DrewL w0 w g A c Cd) := by
  have hgl := hs.lt
  have HR0 := Aside0.mk (show RowS w0 w g A c Cd (.slice (some ⟨w.heap.size, 0, none⟩) 0 0) [] at_ (w.alloc (.cells #[] 44)) from
    ⟨hs.step (balloc (Below.refl _ _) _), grown_of_below (balloc (Below.refl w.heap.size w) _) (some g), R_zero _ _ _ _ _ (Nat.le_refl _) trivial, (fun b hb => by cases hb), hgl⟩)
  clear hs
  go_enter Tryz.func29, Tryz.ntmps29
  go_wp2_with fail
  refine (pick_c (by omega) 12 (by omega) (by omega) _ HR0.out.src).mono ?_; rintro _ w1 ⟨x1, a1, rfl, hx1, ha1, hs1, hg1⟩
  have HR1 := Aside0.mk (HR0.out.pick hs1 hg1)
  obtain ⟨k, rfl⟩ := Int.eq_ofNat_of_zero_le hx1.1
  have hk12 : k ≤ 11 := by have := hx1.2; simp at this; omega
  clear hs1 hg1 hx1 HR0
  go_wp2_with fail
  go_loopg [3, 4] k (fun gk v3 v4 wr => ∃ (L : List Bk) (a2 : Nat), v4 = .int .i64 gk ∧ Aside0 (L.length + gk ≤ 11 ∧ a2 + 14 * gk ≤ 1200) ∧ Aside0 (RowS w0 w g A c Cd v3 L a2 wr))
  case atStart => exact ⟨[], a1, rfl, ⟨by simp; omega, by omega⟩, HR1⟩
  case round =>
    clear HR1
    obtain ⟨L, a2, rfl, hlen, HR⟩ := hrel
    by_cases hk : 0 < gk
    · have hl1 := hlen.out.1
      have hl2 := hlen.out.2
      have hw1 : IntKind.i64.wrap ((gk : Int) - 1) = (gk : Int) - 1 := by rw [IntKind.wrap_i64]; omega
      go_wp2_with fail
      refine (l01One_c (by omega) _ HR.out.src).mono ?_; rintro _ w2 ⟨b, a3, rfl, hb1, hb2, ha3, hs2, hg2⟩
      have HR2 := Aside0.mk (HR.out.pick hs2 hg2)
      have HBB := Aside0.mk (And.intro hb1 hb2)
      clear hs2 hg2 hb1 hb2
      simp only [Bk.val]
      go_wp2_with (at_builtin; refine bk_app w.heap.size HR2.out.gr.size rfl (.tmp 15) (.tmp 18) rfl _ L b rfl rfl HR2.out.row (by omega) ?_; intro v1 w3 hR3 hg3; have HR3 := Aside0.mk (HR2.out.wrote hR3 (HR2.out.ok.snoc HBB.out.1 HBB.out.2) hg3); clear hR3 hg3)
      go_roundg (gk - 1)
      case measure => omega
      case rel => exact ⟨L ++ [b], a3, by first | go_num | (congr 1; omega), ⟨by rw [List.length_append]; simp; omega, by omega⟩, HR3⟩
    · have hl1 := hlen.out.1
      have hl2 := hlen.out.2
      have hk0 : ¬ ((gk : Int) > 0) := by omega
      go_wp2_with fail
      refine (one_c (by omega) _ HR.out.src).mono ?_; rintro _ w2 ⟨b1, a3, rfl, ha3, hs2, hg2⟩
      have HR2 := Aside0.mk (HR.out.pick hs2 hg2)
      clear hs2 hg2
      cases b1
      · go_wp2_with fail
        go_ret
        exact ⟨_, L, a3, rfl, by omega, HR2.out⟩
      · have hu := three_C (w2.alloc (.cells #[.int .i8 1, .int .i8 2, .int .i8 3] 34)) w2.heap.size 0 1 2 3 ((blk_cell (blk_new w2 _) 0).trans rfl) ((blk_cell (blk_new w2 _) 1).trans rfl) ((blk_cell (blk_new w2 _) 2).trans rfl)
        have HRA := Aside0.mk (HR2.out.step (balloc (Below.refl _ _) (.cells #[.int .i8 1, .int .i8 2, .int .i8 3] 34)))
        obtain ⟨A3, c3, rfl⟩ := Kd.R_slice HR2.out.row
        have HSO := Aside0.mk (l01Sorted_c (some ⟨w2.heap.size, 0, none⟩) A3 3 c3 usualL L (w2.alloc (.cells #[.int .i8 1, .int .i8 2, .int .i8 3] 34)) hu usualL_ordZ (Kd.R_reads' HRA.out.row).2.2 (fun b hb => (HR2.out.ok b hb).2) (by omega))
        have HSL := Aside0.mk (sortL_len (ltBy_wk usualL) L)
        have HSM := Aside0.mk (sortL_mem (ltBy_wk usualL) L)
        clear hu
        go_wp2_with fail
        refine HSO.out.mono ?_; rintro _ w3 ⟨v3, rfl, hb3, hv3⟩
        have HR3 := Aside0.mk (show RowS w0 w g A c Cd v3 (Srt.sortL (ltBy usualL) L) a3 w3 from ⟨HRA.out.src.step hb3, grown_trans' HRA.out.gr hb3, Kd.R_lower hv3 HRA.out.gr.size, fun b hb => HRA.out.ok b ((HSM.out b).1 hb), HRA.out.gw⟩)
        have hl3 := HSL.out
        generalize Srt.sortL (ltBy usualL) L = L3 at HR3 hl3
        clear hb3 hv3 HSO HSL HSM HR2 HRA HR
        obtain ⟨A4, c4, rfl⟩ := Kd.R_slice HR3.out.row
        have HL3 := Aside0.mk hl3
        by_cases hlen2 : 1 < L3.length
        · have d0 : decide ((1 : Int) < (L3.length : Int)) = true := decide_eq_true (by omega)
          have d0' : decide (1 < L3.length) = true := decide_eq_true hlen2
          have hl11 : L3.length ≤ 11 := by omega
          clear hl3
          go_wp2_with fail
          refine (one_c (by omega) _ HR3.out.src).mono ?_; rintro _ w4 ⟨b2, a4, rfl, ha4, hs4, hg4⟩
          have HR4 := Aside0.mk (HR3.out.pick hs4 hg4)
          clear hs4 hg4 d0 d0' HR3
          cases b2
          · go_wp2_with fail
            go_ret
            exact ⟨_, L3, a4, rfl, hl11, HR4.out⟩
          · go_wp2_with fail
            refine (pick_c (by omega) (L3.length : Int) (by omega) (by omega) _ HR4.out.src).mono ?_; rintro _ w5 ⟨xi, a5, rfl, hxi, ha5, hs5, hg5⟩
            have HR5 := Aside0.mk (HR4.out.pick hs5 hg5)
            obtain ⟨i, rfl⟩ := Int.eq_ofNat_of_zero_le hxi.1
            have hi : i < L3.length := by have := hxi.2; rw [if_neg (by omega)] at this; omega
            clear hs5 hg5 hxi HR4
            go_wp2_with fail
            refine (pick_c (by omega) (L3.length : Int) (by omega) (by omega) _ HR5.out.src).mono ?_; rintro _ w6 ⟨xk, a6, rfl, hxk, ha6, hs6, hg6⟩
            have HR6 := Aside0.mk (HR5.out.pick hs6 hg6)
            obtain ⟨q, rfl⟩ := Int.eq_ofNat_of_zero_le hxk.1
            have hq : q < L3.length := by have := hxk.2; rw [if_neg (by omega)] at this; omega
            clear hs6 hg6 hxk HR5
            obtain ⟨gg, cap, e4, hgb, _⟩ := Kd.R_form HR6.out.row (by omega)
            injection e4 with e4 e5 e6
            subst e4 e6
            clear e5
            obtain ⟨bi, hbi, r0, r1, r2, r3, r4, r5, r6, r7, _⟩ := row_at HR6.out.row hi
            obtain ⟨bq, hbq, _⟩ := row_at HR6.out.row hq
            have HRX := Aside0.mk (Kd.R_alloc HR6.out.row (.cells #[.int .i16 bi.c, .int .u8 bi.m0, .int .u8 bi.m1, .int .u8 bi.m2, .int .i16 bi.v, .int .i16 bi.wd, .int .i16 bi.h, .int .i16 bi.wt] 44))
            obtain ⟨z0, z1, z2, z3, z4, z5, z6, z7, _⟩ := row_of HRX.out hq hbq.out
            have HBX := Aside0.mk (BkAt.box w6 bi 44)
            have HMI := Aside0.mk (mem_of hbi.out)
            have HMQ := Aside0.mk (mem_of hbq.out)
            have HGB := Aside0.mk (Kd.R_lt HR6.out.row gg rfl)
            have i0 : (0 : Int) ≤ (i : Int) := by omega
            have i1 : (i : Int) < (L3.length : Int) := by omega
            have q0 : (0 : Int) ≤ (q : Int) := by omega
            have q1 : (q : Int) < (L3.length : Int) := by omega
            clear hbi hbq
            have hbw := HR6.out.gr.size
            go_wp2_with (first | (refine bk_store (w := w6.alloc (.cells #[.int .i16 bi.c, .int .u8 bi.m0, .int .u8 bi.m1, .int .u8 bi.m2, .int .i16 bi.v, .int .i16 bi.wd, .int .i16 bi.h, .int .i16 bi.wt] 44)) w.heap.size rfl rfl (.tmp 50) (.tmp 49) rfl i _ bq (fun _ => True) rfl (by omega) rfl HRX.out hi (Below.refl _ _) ?_; intro w7 hR7 hB7 hg7; have HR7 := Aside0.mk hR7; have HG7 := Aside0.mk hg7; obtain ⟨k0, k1, k2, k3, k4, k5, k6, k7⟩ := bkAt_grown HBX.out hg7 (fun k hk => by have := HGB.out; cases hk; show w6.heap.size ≠ gg; omega); clear hR7 hB7 hg7) | (refine bk_store (w := w7) w.heap.size rfl rfl (.tmp 54) (.tmp 53) rfl q _ bi (fun _ => True) rfl (by omega) rfl HR7.out hq (Below.refl _ _) ?_; intro w8 hR8 hB8 hg8; have HR8 := Aside0.mk hR8; have HG8 := Aside0.mk hg8; clear hR8 hB8 hg8))
            go_ret
            have h7 := HR6.out.step (balloc (Below.refl _ _) (.cells #[.int .i16 bi.c, .int .u8 bi.m0, .int .u8 bi.m1, .int .u8 bi.m2, .int .i16 bi.v, .int .i16 bi.wd, .int .i16 bi.h, .int .i16 bi.wt] 44))
            have h8 := h7.wrote HR7.out (h7.ok.set HMQ.out) HG7.out
            have h9 := h8.wrote HR8.out (fun b hb => (h7.ok.set (i := i) HMQ.out).set' (i := q) HMI.out h7.ok b hb) HG8.out
            exact ⟨_, _, a6, rfl, by rw [List.length_set, List.length_set]; exact hl11, h9⟩
        · have d0 : decide ((1 : Int) < (L3.length : Int)) = false := decide_eq_false (by omega)
          have d0' : decide (1 < L3.length) = false := decide_eq_false hlen2
          have hl11 : L3.length ≤ 11 := by omega
          clear hl3
          go_wp2_with fail
          go_ret
          exact ⟨_, L3, a3, rfl, hl11, HR3.out⟩
set_option maxHeartbeats 2000000 in
theorem l00From_c (A : Option Addr) (c : Nat) (Cd : List Int) (w : World) (hC : (Kd.int .u8).C w A Cd.length Cd) (hU : ∀ x, x ∈ Cd → 0 ≤ x ∧ x ≤ 255) :
    Calls Tryz.prog 30 #[.slice A Cd.length c] w (fun e w' => e = .returned (.pointer (some ⟨w.heap.size, 0, none⟩)) ∧ Src w w' w.heap.size A c Cd 0 ∧ w'.heap.size = w.heap.size + 1) := by
  have HS := Aside0.mk (show Src w (w.alloc (.cells #[.slice A Cd.length c, .int .i64 0, .int .u64 0] 82)) w.heap.size A c Cd 0 from ⟨balloc (Below.refl _ _) _, Nat.le_refl _, hC, hU, 0, blk_new w _, by omega, by omega⟩)
  clear hC hU
  go_enter Tryz.func30, Tryz.ntmps30
  go_wp2
  go_ret
  exact ⟨rfl, HS.out, by simp⟩
end Go.Proofs.YtkoaangakmpggaaGreatDoor
end
section
/- Orders that are drawn, in plain Lean. -/
namespace Go.Proofs.YtkoaangakmpggaaGreatDoor
open Go.RowKit Go.Proofs.YtkoaangakmpggaaGreatDoorW.PrintWords Go.Proofs.YtkoaangakmpggaaGreatDoorW.PrintMore
set_option linter.unusedVariables false
set_option linter.unusedSimpArgs false
set_option maxRecDepth 100000

/-- Fields below f, each with a sign. -/
structure OrU (O : List Int) (f : Int) : Prop where
  el : ∀ x, x ∈ O → 1 ≤ absF x ∧ absF x < f ∧ -6 ≤ x ∧ x ≤ 6
  up : O.Pairwise (fun x y => absF x < absF y)
theorem OrU.nil (f : Int) : OrU [] f := ⟨fun x h => (by cases h), List.Pairwise.nil⟩
theorem absF_pm {f x : Int} (h1 : 1 ≤ f) (h2 : f ≤ 6) (h : x = f ∨ x = -f) : absF x = f := by
  unfold absF
  rcases h with rfl | rfl
  · rw [if_neg (by omega)]
  · rw [if_pos (by omega), if_neg (by omega)]; omega
theorem OrU.snoc {O : List Int} {f x : Int} (h : OrU O f) (h1 : 1 ≤ f) (h2 : f ≤ 6) (hx : x = f ∨ x = -f) : OrU (O ++ [x]) (f + 1) := by
  have ha := absF_pm h1 h2 hx
  refine ⟨fun y hy => ?_, ?_⟩
  · rcases List.mem_append.1 hy with hy | hy
    · have := h.el y hy; omega
    · rw [List.mem_singleton.1 hy, ha]; omega
  · rw [List.pairwise_append]
    exact ⟨h.up, List.pairwise_singleton _ _, fun y hy z hz => by rw [List.mem_singleton.1 hz, ha]; exact (h.el y hy).2.1⟩
theorem OrU.skip {O : List Int} {f : Int} (h : OrU O f) : OrU O (f + 1) := ⟨fun x hx => by have := h.el x hx; omega, h.up⟩
theorem OrU.len {O : List Int} {f : Int} (h : OrU O f) (hf : f ≤ 7) : O.length ≤ 6 := by
  have h1 := few_of 6 (O.map absF) (by
    rw [List.pairwise_map]
    exact h.up.imp (fun h => by omega)) (by
    intro x hx
    obtain ⟨y, hy, rfl⟩ := List.mem_map.1 hx
    have := h.el y hy
    omega)
  rwa [List.length_map] at h1
theorem OrU.ord {O : List Int} (h : OrU O 7) (h0 : 0 < O.length) : vOrd O = true := by
  rw [vOrd_all, decide_eq_true_eq]
  · exact h0
  · intro i hi
    rw [ordAt_of (List.getElem?_eq_getElem hi), Bool.and_eq_true, Bool.not_eq_true', decide_eq_false_iff_not, inR_iff]
    have h1 := h.el O[i] (List.getElem_mem hi)
    refine ⟨by omega, fun hm => ?_⟩
    obtain ⟨y, hy, hye⟩ := List.mem_map.1 hm
    obtain ⟨j, hj, rfl⟩ := List.mem_take_iff_getElem.1 hy
    have := List.pairwise_iff_getElem.1 h.up j i (by omega) hi (by omega)
    omega
theorem OrU.ok {O : List Int} {f : Int} (h : OrU O f) : OrdOk O := fun x hx => by
  have h1 := h.el x hx
  refine ⟨by unfold I8; omega, fun e => ?_⟩
  rw [e] at h1
  have : absF 0 = 0 := by decide
  omega
theorem OrU.i8 {O : List Int} {f : Int} (h : OrU O f) : ∀ x ∈ O, I8 x := fun x hx => (h.ok x hx).1
end Go.Proofs.YtkoaangakmpggaaGreatDoor
end
