/- A region that draws its order, some of whose operations lay a block that others read: the quiet ones are taken first, from whatever world has grown out of the base. -/
import Derived.Test.YtgibcacciedobaaDoorTail
import Derived.StillTail
import Derived.StillTailTactics
import Derived.Deep.Quiet
import Derived.Deep.RegionWith
namespace Go.Proofs.YtgibcacciedobaaDoor
open Go.RowKit Go.Proofs.YtgibcacciedobaaDoorW.PrintWords Go.Proofs.YtgibcacciedobaaDoorW.PrintMore
set_option linter.unusedVariables false
set_option linter.unusedSimpArgs false
set_option maxRecDepth 100000

section
variable {P : Program} {ops : Array Oper} {md : Region.Mode} {Q : Exit → Act → World → Prop}
/-- w has grown out of b, what b holds kept. -/
abbrev Ov (b w : World) : Prop := Below b.heap.size b w
theorem Ov.step {a b c : World} (h : Ov a b) (k : Ov b c) : Ov a c := bstep h k
/-- From whatever base above b, the operation yields v in every world above that base, and leaves one. -/
def YG (P : Program) (ops : Array Oper) (G : World → World → Prop) (b : World) (o : Oper) (v : Value) (a : Act) : Prop := ∀ b', G b b' → YieldsIn P ops (Ov b') o v a
/-- What the other operations keep. -/
structure Keep (G : World → World → Prop) : Prop where
  of : ∀ {b w}, Ov b w → G b w
  step : ∀ {a b c}, G a b → G b c → G a c
theorem Keep.ov : Keep Ov := ⟨fun h => h, fun h k => h.step k⟩
variable {G : World → World → Prop}
theorem YG.up (hG : Keep G) {b b' : World} {o : Oper} {v : Value} {a : Act} (h : YG P ops G b o v a) (hb : G b b') : YG P ops G b' o v a := fun c hc => h c (hG.step hb hc)
theorem putY {j : Nat} {oi oj : Oper} {v : Value} {Y : Act → Prop} (hj : ops[j]? = some oj) (hap : oi.apart ops oj = true) (hsj : ∀ cs b, oj.op ≠ .select cs b)
    (keep : ∀ a, Y a → ∀ u, Y (a.put oj.dst u)) (keepD : ∀ a d, Y a → Y { a with defers := d :: a.defers }) (hQ : ∀ c a w, Q (.panic c) (a.put oi.dst v) w → Q (.panic c) a w)
    {K : Act → World → Prop} {a : Act} {w : World} (hy : Y a) (h : wpOp P ops Q j K (a.put oi.dst v) w) : wpOp P ops Q j (fun a' w' => Y a' ∧ K (a'.put oi.dst v) w') a w := by
  obtain ⟨h1, h2, h3⟩ := Oper.apart_spec hap
  unfold wpOp at *
  simp only [hj] at *
  rw [wanted_put oj a oi.dst v h1] at h
  split
  · rename_i hw
    simp only [hw, if_true] at h
    rcases h with h | ⟨hasks, hlets⟩
    case inr => exact .inr ⟨by unfold Oper.asks at *; rw [execOp_put oj hsj a oi.dst v h1] at hasks; exact hasks, hlets⟩
    refine .inl ?_
    unfold Oper.wp at *
    rw [execOp_put oj hsj a oi.dst v h1] at h
    generalize (execOp a.eval oj).run P w = r at *
    cases r with
    | ok n w' =>
      cases n <;> simp only [Oper.upon] at h ⊢
      case value u => exact ⟨keep a hy u, by rw [← Act.put_comm a v u h2]; exact h⟩
      case skip => exact ⟨keep a hy _, by rw [← Act.put_comm a v undef h2]; exact h⟩
      case defer d =>
        refine ⟨keep _ (keepD _ d hy) _, ?_⟩
        rw [← Act.put_comm _ v undef h2, ← Act.put_defers]
        exact h
      case enter f args =>
        refine Calls.mono h fun e w'' he => ?_
        cases e with
        | returned u => exact ⟨keep a hy u, by rw [← Act.put_comm a v u h2]; exact he⟩
        | panicked c => exact hQ _ _ _ he
        | outgrown => exact he
      case row row args => exact Rows.mono h fun u w'' he => ⟨keep a hy u, by rw [← Act.put_comm a v u h2]; exact he⟩
    | halt x w' =>
      cases x <;> simp only [Oper.upon] at h ⊢
      case panic u => exact hQ _ _ _ h
  · rename_i hw
    simp only [hw] at h
    exact ⟨keep a hy _, by rw [← Act.put_comm a v undef h2]; exact h⟩
/-- The operations ahead of n in whatever order, each from whatever world above the base; the world that it leaves is the next base. -/
def headO (P : Program) (md : Region.Mode) (ops : Array Oper) (G : World → World → Prop) (Q : Exit → Act → World → Prop) (n : Nat) (L : Array Bool → Act → World → Prop) : Nat → Array Bool → Act → World → Prop
  | 0, listed, a, b => L listed a b
  | f + 1, listed, a, b => Region.ready md ops listed ≠ [] ∧ ∀ i ∈ Region.ready md ops listed, i < n ∧ ∀ w, Ov b w → wpOp P ops Q i (fun a' w' => G w w' ∧ headO P md ops G Q n L f (listed.setIfInBounds i true) a' w') a w
theorem headO_up {n : Nat} {L : Array Bool → Act → World → Prop} (hL : ∀ listed a b b', Ov b b' → L listed a b → L listed a b') {b b' : World} (hb : Ov b b') :
    ∀ (f : Nat) (listed : Array Bool) (a : Act), headO P md ops G Q n L f listed a b → headO P md ops G Q n L f listed a b'
  | 0, _, _, h => hL _ _ _ _ hb h
  | _ + 1, _, _, h => ⟨h.1, fun i hi => ⟨(h.2 i hi).1, fun w hw => (h.2 i hi).2 w (hb.step hw)⟩⟩
theorem headO_any {n g : Nat} {L : Array Bool → Act → World → Prop} (hL : ∀ listed a w, L listed a w → wpAny P md ops Q g listed a w) :
    ∀ (f : Nat) (listed : Array Bool) (a : Act) (w : World), headO P md ops G Q n L f listed a w → wpAny P md ops Q (f + g) listed a w
  | 0, _, _, _, h => by rw [Nat.zero_add]; exact hL _ _ _ h
  | f + 1, _, _, w, h => by
    rw [Nat.add_right_comm]
    exact ⟨fun h0 => absurd h0 h.1, fun i hi => wpOp_mono (fun a' w' h' => headO_any hL f _ a' w' h'.2) ((h.2 i hi).2 w (Below.refl _ _))⟩
theorem YG.op (hG : Keep G) {b : World} {i : Nat} {o : Oper} {v : Value} {a : Act} {K : Act → World → Prop} (hi : ops[i]? = some o) (hy : YG P ops G b o v a) (hK : ∀ w, Ov b w → K (a.put o.dst v) w) (w : World) (hw : Ov b w) :
    wpOp P ops Q i (fun a' w' => G w w' ∧ K a' w') a w :=
  wpOp_of_qOp (C := Ov w) (K := fun a' => a' = a.put o.dst v) (Below.refl _ _) (fun a' w' h1 h2 => ⟨hG.of h1, by rw [h2]; exact hK w' (hw.step h1)⟩) ((hy w (hG.of hw)).qOp hi rfl)
theorem headO_first (hG : Keep G) {n i : Nat} {oi : Oper} {v : Value} {L : Array Bool → Act → World → Prop} (hi : ops[i]? = some oi) (hsel : ∀ (j : Nat) (o : Oper) cs b, ops[j]? = some o → o.op ≠ .select cs b)
    (hQ : ∀ c a w, Q (.panic c) (a.put oi.dst v) w → Q (.panic c) a w)
    (hs : Region.sinkB md ops n = true) (hc : Region.chainB md ops n = true) (hn : n < ops.size) (hin : i < n) (hL : ∀ listed a b, L listed a b → ∀ j ∈ Region.ready md ops listed, n ≤ j)
    (hLu : ∀ listed a b b', Ov b b' → L listed a b → L listed a b') (f : Nat) :
    ∀ (listed : Array Bool) (a : Act) (b : World), HeadInv md ops n listed →
      (∀ j oj, ops[j]? = some oj → j ≠ i → listed.getD j true = false → (∀ e ∈ oj.after, Region.binds md e = true → e.on ≠ i) → oi.apart ops oj = true) →
      i ∈ Region.ready md ops listed → YG P ops G b oi v a → headO P md ops G Q n L f (listed.setIfInBounds i true) (a.put oi.dst v) b → headO P md ops G Q n L (f + 1) listed a b := by
  induction f with
  | zero =>
    intro listed a b inv _ hr hy H
    refine ⟨fun h => (by rw [h] at hr; cases hr), fun j hj => ?_⟩
    by_cases hji : j = i
    · subst hji
      exact ⟨hin, hy.op hG hi (fun w hw => hLu _ _ _ _ hw H)⟩
    · have h1 := hL _ _ _ H j (ready_mono hj hji)
      exact absurd hj (tail_waits hs hc hn inv _ i rfl hin (mem_ready.1 hr).1 j h1)
  | succ f ih =>
    intro listed a b inv hfree hr hy H
    have hun := (mem_ready.1 hr).1
    refine ⟨fun h => (by rw [h] at hr; cases hr), fun j hj => ?_⟩
    by_cases hji : j = i
    · subst hji
      exact ⟨hin, hy.op hG hi (fun w hw => headO_up hLu hw _ _ _ H)⟩
    · obtain ⟨hjn, h1⟩ := H.2 j (ready_mono hj hji)
      refine ⟨hjn, fun w hw => ?_⟩
      obtain ⟨hjun, oj, hoj, hall⟩ := mem_ready.1 hj
      have hno : ∀ e ∈ oj.after, Region.binds md e = true → e.on ≠ i := fun e he hb heq => by
        have h2 := hall e he hb
        rw [heq, getD_both hun] at h2
        cases h2
      have hap := hfree j oj hoj hji hjun hno
      obtain ⟨p1, p2, p3⟩ := Oper.apart_spec hap
      have h2 := putY (Q := Q) (Y := fun a' => YG P ops G b oi v a') hoj hap (fun cs c => hsel j oj cs c hoj)
        (fun a' hy' u b' hb' => (hy' b' hb').of_same (execOp_put oi (fun cs c => hsel i oi cs c hi) a' oj.dst u p3) (wanted_put oi a' oj.dst u p3))
        (fun a' d hy' b' hb' => (hy' b' hb').of_same rfl rfl) hQ hy (h1 w hw)
      refine wpOp_mono (fun a' w' h3 => ⟨h3.2.1, ih (listed.setIfInBounds j true) a' w' (inv.set hj hjn) (fun k ok hk hki hkun hkno => ?_) (ready_mono hr (Ne.symm hji)) (h3.1.up hG (hG.step (hG.of hw) h3.2.1)) ?_⟩) h2
      · refine hfree k ok hk hki ?_ hkno
        by_cases hjk : j = k
        · rw [← hjk]
          exact hjun
        · rwa [getD_set_ne true hjk] at hkun
      · rw [Array.setIfInBounds_comm _ _ hji]
        exact h3.2.2
/-- The walk's state: what is listed has come up. -/
def HO (P : Program) (md : Region.Mode) (l : List Oper) (G : World → World → Prop) (Q : Exit → Act → World → Prop) (n f : Nat) (listed : Array Bool) (a : Act) (b : World) : Prop :=
  HeadInv md l.toArray n listed → headO P md l.toArray G Q n (fun listed' a' b' => Region.seqB md l.toArray (l.toArray.size - n) n listed' = true ∧ ∀ w, Ov b' w → wpList P l.toArray Q (l.drop n) a' w) f listed a b
def sideB (md : Region.Mode) (l : List Oper) (n : Nat) : Bool := Region.noSelect l.toArray && decide (n < l.toArray.size) && Region.sinkB md l.toArray n && Region.chainB md l.toArray n
theorem HO_take (hG : Keep G) {l : List Oper} {n f i : Nat} {listed : Array Bool} {a : Act} {b : World} {oi : Oper} {v : Value} (hi : l.toArray[i]? = some oi) (hB : sideB md l n = true) (hf : Region.free md l.toArray listed i = true)
    (hr : (Region.ready md l.toArray listed).contains i = true) (hin : i < n) (hQ : ∀ c a w, Q (.panic c) (a.put oi.dst v) w → Q (.panic c) a w)
    (hy : YG P l.toArray G b oi v a) (H : HO P md l G Q n f (listed.setIfInBounds i true) (a.put oi.dst v) b) : HO P md l G Q n (f + 1) listed a b := by
  simp only [sideB, Bool.and_eq_true, decide_eq_true_eq] at hB
  obtain ⟨⟨⟨hsel, hn⟩, hs⟩, hc⟩ := hB
  intro inv
  have hr' : i ∈ Region.ready md l.toArray listed := by simpa using hr
  exact headO_first hG hi (Region.noSelect_spec hsel) hQ hs hc hn hin (fun _ _ _ hL => seqB_ready hL.1) (fun _ _ _ _ hb hL => ⟨hL.1, fun w hw => hL.2 w (hb.step hw)⟩) f listed a b inv (Region.free_spec hi hf) hr' hy (H (inv.set hr' hin))
/-- The one operation that may come up. -/
theorem HO_one {l : List Oper} {n f i : Nat} {listed : Array Bool} {a : Act} {b : World} (hr : Region.ready md l.toArray listed = [i]) (hin : i < n)
    (H : ∀ w, Ov b w → wpOp P l.toArray Q i (fun a' w' => G w w' ∧ HO P md l G Q n f (listed.setIfInBounds i true) a' w') a w) : HO P md l G Q n (f + 1) listed a b := by
  intro inv
  have hm : i ∈ Region.ready md l.toArray listed := by rw [hr]; exact List.mem_singleton.2 rfl
  refine ⟨by rw [hr]; simp, fun j hj => ?_⟩
  rw [hr, List.mem_singleton] at hj
  subst hj
  exact ⟨hin, fun w hw => wpOp_mono (fun a' w' h => ⟨h.1, h.2 (inv.set hm hin)⟩) (H w hw)⟩
/-- .. walked. -/
theorem HO_step {l : List Oper} {n f i : Nat} {listed : Array Bool} {a : Act} {b : World} {oi : Oper} (hi : l.toArray[i]? = some oi) (hr : Region.ready md l.toArray listed = [i]) (hin : i < n) (hw : Region.wanted oi (yielded l.toArray a.tmps) = true)
    (H : ∀ w, Ov b w → ∀ K : Act → World → Prop, (∀ a' w', G w w' → HO P md l G Q n f (listed.setIfInBounds i true) a' w' → K a' w') → oi.wp P a w K Q) : HO P md l G Q n (f + 1) listed a b :=
  HO_one hr hin (fun w hb => by
    unfold wpOp
    simp only [hi, hw, if_true]
    exact .inl (H w hb _ (fun _ _ h1 h2 => ⟨h1, h2⟩)))
/-- Two may come up. -/
theorem HO_step2 {l : List Oper} {n f i j : Nat} {listed : Array Bool} {a : Act} {b : World} {oi oj : Oper} (hi : l.toArray[i]? = some oi) (hj : l.toArray[j]? = some oj) (hr : Region.ready md l.toArray listed = [i, j]) (hin : i < n) (hjn : j < n)
    (hw : Region.wanted oi (yielded l.toArray a.tmps) = true) (hw' : Region.wanted oj (yielded l.toArray a.tmps) = true)
    (H : ∀ w, Ov b w → ∀ K : Act → World → Prop, (∀ a' w', G w w' → HO P md l G Q n f (listed.setIfInBounds i true) a' w' → K a' w') → oi.wp P a w K Q)
    (H' : ∀ w, Ov b w → ∀ K : Act → World → Prop, (∀ a' w', G w w' → HO P md l G Q n f (listed.setIfInBounds j true) a' w' → K a' w') → oj.wp P a w K Q) : HO P md l G Q n (f + 1) listed a b := by
  intro inv
  refine ⟨by rw [hr]; simp, fun k hk => ?_⟩
  have hm : i ∈ Region.ready md l.toArray listed ∧ j ∈ Region.ready md l.toArray listed := by rw [hr]; exact ⟨by simp, by simp⟩
  rw [hr] at hk
  rcases List.mem_cons.1 hk with rfl | hk
  · refine ⟨hin, fun w hb => ?_⟩
    unfold wpOp
    simp only [hi, hw, if_true]
    exact .inl (H w hb _ (fun _ _ h1 h2 => ⟨h1, h2 (inv.set hm.1 hin)⟩))
  · obtain rfl := List.mem_singleton.1 hk
    refine ⟨hjn, fun w hb => ?_⟩
    unfold wpOp
    simp only [hj, hw', if_true]
    exact .inl (H' w hb _ (fun _ _ h1 h2 => ⟨h1, h2 (inv.set hm.2 hjn)⟩))
theorem HO_end {l : List Oper} {n : Nat} {listed : Array Bool} {a : Act} {b : World} (hB : Region.seqB md l.toArray (l.toArray.size - n) n listed = true) (H : ∀ w, Ov b w → wpList P l.toArray Q (l.drop n) a w) : HO P md l G Q n 0 listed a b :=
  fun _ => ⟨hB, H⟩
theorem region_HO {id : Nat} {a : Act} {w : World} {l : List Oper} (n : Nat) (hm : P.follows .mixedOrders = true) (hB : sideB .any l n = true) (H : HO P .any l G Q n n (Array.replicate l.toArray.size false) a w.drew) : (Code.region id l.toArray true).wp P Q a w := by
  simp only [sideB, Bool.and_eq_true, decide_eq_true_eq] at hB
  obtain ⟨⟨⟨hsel, hn⟩, hs⟩, hc⟩ := hB
  have h := H ⟨by simp, fun j oj _ hl => (by rw [getD_replicate_false] at hl; cases hl), fun t _ ht => getD_in (by simpa using ht) (getD_replicate_false _ _)⟩
  refine wp_region_any hm ?_
  have e2 : (l.drop n).length = l.toArray.size - n := by simp
  have := headO_any (g := l.toArray.size - n) (fun listed a' w' hL => by
    have := wpAny_of_seq (md := .any) (Q' := Q) (l.drop n) n listed a' w' (fun j => by simp [List.getElem?_drop]) (by rw [e2]; exact hL.1) (hL.2 w' (Below.refl _ _))
    rwa [e2] at this) _ _ _ w.drew h
  rw [show n + (l.toArray.size - n) = l.toArray.size by have := hn; omega] at this
  exact this
end
end Go.Proofs.YtgibcacciedobaaDoor
