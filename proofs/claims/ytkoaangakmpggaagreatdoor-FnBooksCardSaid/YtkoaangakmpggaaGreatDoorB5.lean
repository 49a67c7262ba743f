/- Texts of this proof that belong together: TxRA, TxK, TxM, BkX. No condition. -/
import Derived.Test.YtkoaangakmpggaaGreatDoorB4
import Derived.RangeFuncNested
import Derived.RangeFuncBound
import Derived.RangeFuncCalls
import Derived.RangeFuncLeaves
import Derived.Shelf.Abstract
import Derived.Shelf.RegionOpen
import Derived.WalkKit
import Derived.OwnWalkIn
import Derived.TacticsInMore
import Derived.LoopNIn
import Derived.LoopIn
import Derived.OrdersIn
import Derived.StillTail
import Derived.StillTailTactics
import Derived.Deep.Quiet
import Derived.Deep.RegionWith
import Derived.Still
import Derived.Deep.QuietTactic
import Derived.BigQuiet
import Derived.RangeFuncBox
import Derived.Maps.AppendAt
import Derived.Shelf.Strings.BuilderK
import Derived.Shelf.Strings.OnBuilder
import Derived.Deep.RegionHeld3
section
/- A range over a function whose own state lies in a box: the rounds of a loop; A region in a round's frame that draws its order, walked as outside of a round; strings.Lines: the iterator; readLines: the program's reading of a list's lines; ReadBooks: the program's. -/
namespace Go.Proofs.YtkoaangakmpggaaGreatDoor
open Go.RowKit Go.Proofs.YtkoaangakmpggaaGreatDoorW.PrintWords Go.Proofs.YtkoaangakmpggaaGreatDoorW.PrintMore
set_option linter.unusedVariables false
set_option linter.unusedSimpArgs false
set_option maxRecDepth 100000

section
variable {F : Fence} {n : Nat} {P : Program}
/-- How a round of such a loop ends: on, or by a return. -/
def boxPost {α : Type} (B b : Nat) (Inv : List α → World → Prop) (Out : World → Prop) (xs : List α) (W : World) : Exit → Act → World → Prop
  | .normal, _, W' => KeepsFrom B W W' ∧ W'.heap[b]? = W.heap[b]? ∧ Inv xs W'
  | .ret, _, W' => KeepsFrom B W W' ∧ Out W'
  | _, _, _ => False
/-- An iterator with a box b: what it asks of the rounds, and what it gives. Its own steps are St. -/
def BoxSeq {α : Type} (F : Fence) (n : Nat) (P : Program) (gf : Nat) (lb : Array Value) (encs : α → Array Value) (b : Nat) (St : World → World → Prop) (Sp S : List α → Prop) (w : World) : Prop :=
  ∀ (l : Nat) (J : List α → World → Prop) (Jx : World → Prop) (W : World), Below w.heap.size w W → (∀ pre W1 W2, J pre W1 → St W1 W2 → J pre W2) →
    (∀ pre x W1, Sp (pre ++ [x]) → J pre W1 → YieldAt F (n - 1) P l (encs x) W1 fun e W' => (e = .returned (.bool true) ∧ J (pre ++ [x]) W' ∧ W'.heap[b]? = W1.heap[b]?) ∨ (e = .returned (.bool false) ∧ Jx W')) →
    J [] W → CallsIn F n P gf (#[.func (.yield l) #[] #[]] ++ lb) W fun e W' => (∃ v, e = .returned v) ∧ ((∃ xs, S xs ∧ J xs W') ∨ Jx W')
theorem range_box {α : Type} {g : Operand} {ps : Array Tmp} {assign body : Code} {Q : Exit → Act → World → Prop} {a : Act} {w : World}
    (hro : F.round = none) (h1 : 1 ≤ n) {gf : Nat} {lb : Array Value} (hg : a.eval g = .func (.func gf) #[] lb) (hFg : F.fn gf) (eg : ∀ args w, (callFunc gf args).run P w = .ok (.enter gf args) w)
    {encs : α → Array Value} (hps : ∀ x, (encs x).size = ps.size) {b : Nat} {St : World → World → Prop} {Sp S : List α → Prop} (hit : BoxSeq F (n - 1) P gf lb encs b St Sp S w) (hb : b < w.heap.size)
    (Inv : List α → World → Prop) (Out : World → Prop)
    (hInv : ∀ pre W l o o', Inv pre W → w.heap.size ≤ l → W.heap[l]? = some o → o.isCells = false → Inv pre (W.putObj l o'))
    (hOut : ∀ W l o o', Out W → w.heap.size ≤ l → W.heap[l]? = some o → o.isCells = false → Out (W.putObj l o'))
    (hSt : ∀ pre W W', Inv pre W → St W W' → Inv pre W') (hSk : ∀ W W' k o, St W W' → w.heap.size ≤ k → W.heap[k]? = some o → o.isCells = false → W'.heap[k]? = some o)
    (h0 : ∀ o o', Inv [] ((w.alloc o).alloc o')) (a₁ : α → Act)
    (hassign : ∀ (l : Nat) (x : α) (W : World) (K : Act → World → Prop), K (a₁ x) W →
      assign.wpIn (F.inRound l) (n - 1 - 1) P (Exit.then K (fun _ _ _ => False)) { tmps := (ps.zip (encs x)).foldl (fun t (p, v) => t.setIfInBounds p v) a.tmps, defers := [] } W)
    (hbody : ∀ (l : Nat) (pre : List α) (x : α) (W : World), Sp (pre ++ [x]) → Inv pre W → body.wpIn (F.inRound l) (n - 1 - 1) P (boxPost w.heap.size b Inv Out (pre ++ [x]) W) (a₁ x) W)
    (hdone : ∀ (D : Nat) (xs : List α) (W : World), w.heap.size ≤ D → S xs → Inv xs W → W.heap[D]? = some (.deferred (some [])) → Q .normal { a with defers := { target := .collected D, args := #[] } :: a.defers } W)
    (hstop : ∀ (D : Nat) (W : World), w.heap.size ≤ D → Out W → W.heap[D]? = some (.deferred (some [])) → Code.ret.wpIn F n P Q { a with defers := { target := .collected D, args := #[] } :: a.defers } W) :
    (Code.rangeFunc g ps assign body).wpIn F n P Q a w := by
  refine wpIn_rangeFunc fun fn hfn => ?_
  rw [hro]
  -- the two blocks of the loop
  let R : LoopState → Option Code → Loop := fun st pe => { state := st, pending := pe, fn := fn, tmps := a.tmps, params := ps, assign := assign, body := body, defers := w.heap.size }
  have hsz : (w.alloc (.deferred (some []))).heap.size = w.heap.size + 1 := World.size_alloc _ _
  have bB : Below w.heap.size w ((w.alloc (.deferred (some []))).alloc (.loop (R .ready none))) := balloc (balloc (Below.refl _ _) _) _
  have kL : ((w.alloc (.deferred (some []))).alloc (.loop (R .ready none))).heap[w.heap.size + 1]? = some (.loop (R .ready none)) := by
    have := World.alloc_heap_new (w.alloc (.deferred (some []))) (.loop (R .ready none))
    rwa [hsz] at this
  have kD : ((w.alloc (.deferred (some []))).alloc (.loop (R .ready none))).heap[w.heap.size]? = some (.deferred (some [])) :=
    (Below.heap_alloc _ _ _ (by rw [hsz]; omega)).trans (World.alloc_heap_new w _)
  have hi0 := h0 (.deferred (some [])) (.loop (R .ready none))
  generalize hW0 : (w.alloc (.deferred (some []))).alloc (.loop (R .ready none)) = W0 at bB kL kD hi0
  refine ⟨w.heap.size + 1, [{ target := .collected w.heap.size, args := #[] }], W0, { target := .fn (.func gf) lb, args := #[.func (.yield (w.heap.size + 1)) #[] #[]] }, W0, gf, #[.func (.yield (w.heap.size + 1)) #[] #[]] ++ lb, W0, ?_, ?_, ?_, ?_, fun _ => h1, ?_⟩
  · rw [← hW0]; exact run_enterLoop_outer _ _ _ _ _
  · simp only [resolve, hg]
    simp [go_sem]
  · intro f' hf'
    simp [Target.leads] at hf'
    subst hf'
    exact hFg
  · simp [invoke, go_sem, eg]
  · refine (hit (w.heap.size + 1) (fun pre W => Inv pre W ∧ W.heap[w.heap.size + 1]? = some (.loop (R .ready none)) ∧ W.heap[w.heap.size]? = some (.deferred (some [])))
      (fun W => Out W ∧ W.heap[w.heap.size + 1]? = some (.loop (R .done (some .ret))) ∧ W.heap[w.heap.size]? = some (.deferred (some []))) W0 bB ?_ ?_ ⟨hi0, kL, kD⟩).mono ?_
    · rintro pre W1 W2 ⟨hi, hl, hd⟩ hs
      exact ⟨hSt _ _ _ hi hs, hSk _ _ _ _ hs (by omega) hl rfl, hSk _ _ _ _ hs (Nat.le_refl _) hd rfl⟩
    · rintro pre x W hsp ⟨hi, hl, hd⟩
      have hlt : w.heap.size + 1 < W.heap.size := (Array.getElem?_eq_some_iff.1 hl).1
      refine ⟨fn, _, assign, body, run_yield (P := P) (args := encs x) hl (hps x), roundIn_of_wpIn hfn (hassign _ x W _ ⟨_, run_beginRound hl rfl, ?_⟩)⟩
      have l2 : (W.putObj (w.heap.size + 1) (.loop (R .busy none))).heap[w.heap.size + 1]? = some (.loop (R .busy none)) := World.putObj_heap_same hlt
      have d2 : (W.putObj (w.heap.size + 1) (.loop (R .busy none))).heap[w.heap.size]? = some (.deferred (some [])) := (World.putObj_heap_other (by omega)).trans hd
      have b2 : (W.putObj (w.heap.size + 1) (.loop (R .busy none))).heap[b]? = W.heap[b]? := World.putObj_heap_other (by omega)
      refine wpIn_mono (hbody _ pre x _ hsp (hInv _ _ _ _ _ hi (by omega) hl rfl)) ?_
      -- the record is laid down
      have fin : ∀ (jump : Option Code) (W3 : World), KeepsFrom w.heap.size (W.putObj (w.heap.size + 1) (.loop (R .busy none))) W3 → W3.heap[w.heap.size + 1]? = some (.loop (R .busy none)) ∧ (W3.putObj (w.heap.size + 1) (.loop (R (if jump.isNone then .ready else .done) jump))).heap[w.heap.size + 1]? = some (.loop (R (if jump.isNone then .ready else .done) jump)) ∧
          (W3.putObj (w.heap.size + 1) (.loop (R (if jump.isNone then .ready else .done) jump))).heap[w.heap.size]? = some (.deferred (some [])) := fun jump W3 hk => by
        have l3 := hk.same _ _ (by omega) l2 rfl
        exact ⟨l3, World.putObj_heap_same (Array.getElem?_eq_some_iff.1 l3).1, (World.putObj_heap_other (by omega)).trans (hk.same _ _ (Nat.le_refl _) d2 rfl)⟩
      intro e a3 W3 hp
      cases e with
      | normal =>
        obtain ⟨hk, hb3, hi3⟩ := hp
        obtain ⟨l3, l4, d4⟩ := fin none W3 hk
        exact ⟨_, _, run_endRound (P := P) none l3, .inl ⟨rfl, ⟨hInv _ _ _ _ _ hi3 (by omega) l3 rfl, l4, d4⟩, (World.putObj_heap_other (by omega)).trans (hb3.trans b2)⟩⟩
      | ret =>
        obtain ⟨hk, ho3⟩ := hp
        obtain ⟨l3, l4, d4⟩ := fin (some .ret) W3 hk
        exact ⟨_, _, run_endRound (P := P) (some .ret) l3, .inr ⟨rfl, hOut _ _ _ _ ho3 (by omega) l3 rfl, l4, d4⟩⟩
      | exit id => exact hp.elim
      | goto t => exact hp.elim
      | panic ch => exact hp.elim
      | outgrown => exact hp.elim
    · rintro e W2 ⟨⟨v, rfl⟩, (⟨xs, hS, hi, hl, hd⟩ | ⟨ho, hl, hd⟩)⟩
      · exact ⟨none, _, run_endLoop (P := P) hl (by simp [R]), hdone _ xs _ (Nat.le_refl _) hS (hInv _ _ _ _ _ hi (by omega) hl rfl) ((World.putObj_heap_other (by omega)).trans hd)⟩
      · exact ⟨some .ret, _, run_endLoop (P := P) hl (by simp [R]), hstop _ _ (Nat.le_refl _) (hOut _ _ _ _ ho (by omega) hl rfl) ((World.putObj_heap_other (by omega)).trans hd)⟩
end
section
variable {P : Program} {ops : Array Oper} {Q : Exit → Act → World → Prop} {l n : Nat}
theorem rows_inRound {row : String} {args : Array Value} {w : World} {R : Value → World → Prop} (h : Rows P row args w R) : RowsIn (Fence.wide.inRound l) n P row args w R :=
  fun c cs _ => let ⟨v, w', r, s⟩ := h c cs; ⟨v, w', r, stepsIn_wide.2 s⟩
theorem op_inRound {o : Oper} (hd : ∀ c, o.op ≠ .defer c) {a : Act} {w : World} {K : Act → World → Prop} (h : o.wp P a w K Q) : o.wpIn (Fence.wide.inRound l) n P a w K Q := by
  refine ⟨fun _ _ => trivial, ?_⟩
  rw [Oper.semAt_plain _ _ _ hd]
  unfold Oper.wp at h
  generalize (execOp a.eval o).run P w = r at *
  cases r with
  | ok x w' =>
    cases x <;> simp only [Oper.upon, Oper.uponIn] at h ⊢
    case value => exact h
    case skip => exact h
    case defer => exact h
    case enter =>
      refine ⟨(fun hh => by cases hh), ?_⟩
      refine (callsIn_wide (n := n - 1)).2 ?_
      refine Calls.mono h ?_
      intro e w'' he
      cases e <;> exact he
    case row => exact ⟨(fun hh => by cases hh), rows_inRound h⟩
  | halt x w' => cases x <;> simp only [Oper.upon, Oper.uponIn] at h ⊢ <;> exact h
theorem ops_inRound (hd : ∀ (i : Nat) (o : Oper) c, ops[i]? = some o → o.op ≠ .defer c) (hQ : ¬ LetsOut Q) : ∀ (L : List Nat) (a : Act) (w : World), wpOps P ops Q L a w → wpOpsIn (Fence.wide.inRound l) n P ops Q L a w
  | [], _, _, h => h
  | i :: rest, a, w, h => by
    simp only [wpOps, wpOpsIn] at h ⊢
    cases ho : ops[i]? with
    | none => simp only [ho] at h ⊢; exact ops_inRound hd hQ rest a w h
    | some o =>
      simp only [ho] at h ⊢
      split
      · rename_i hw
        simp only [hw, if_true] at h
        rcases h with h | h
        · exact Oper.wpIn_mono (fun a w => ops_inRound hd hQ rest a w) (op_inRound (hd i o · ho) h)
        · exact absurd h.2 hQ
      · rename_i hw
        simp only [hw] at h
        exact ⟨fun _ _ => trivial, ops_inRound hd hQ rest _ w h⟩
theorem region_inRound {id : Nat} {a : Act} {w : World} (hm : P.follows .mixedOrders = true) (hd : ∀ (i : Nat) (o : Oper) c, ops[i]? = some o → o.op ≠ .defer c) (hQ : ¬ LetsOut Q)
    (h : wpAny P .any ops Q ops.size (Array.replicate ops.size false) a w.drew) : (Code.region id ops true).wpIn (Fence.wide.inRound l) n P Q a w :=
  wpIn_region_draw fun t => by
    simp only [Region.schedule, hm, Bool.true_or, if_true]
    exact ops_inRound hd hQ _ _ _ (wpAny_sound ops.size t _ a _ h)
/-- No operation is a defer statement. -/
def noDeferB (l : List Oper) : Bool := l.all (fun o => match o.op with | .defer _ => false | _ => true)
theorem noDeferB_spec {l : List Oper} (h : noDeferB l = true) : ∀ (i : Nat) (o : Oper) c, l.toArray[i]? = some o → o.op ≠ .defer c := by
  intro i o c hi he
  have h1 := List.all_eq_true.1 h o (by rw [List.getElem?_toArray] at hi; exact List.mem_of_getElem? hi)
  rw [he] at h1
  cases h1
theorem regionIn_HO {id r m : Nat} {a : Act} {w : World} {l : List Oper} {G : World → World → Prop} (n : Nat) (hm : P.follows .mixedOrders = true) (hd : noDeferB l = true) (hQ : ¬ LetsOut Q) (hB : sideB .any l n = true) (H : HO P .any l G Q n n (Array.replicate l.toArray.size false) a w.drew) : (Code.region id l.toArray true).wpIn (Fence.wide.inRound r) m P Q a w := by
  simp only [sideB, Bool.and_eq_true, decide_eq_true_eq] at hB
  obtain ⟨⟨⟨hsel, hn⟩, hs⟩, hc⟩ := hB
  have h := H ⟨by simp, fun j oj _ hl => (by rw [getD_replicate_false] at hl; cases hl), fun t _ ht => getD_in (by simpa using ht) (getD_replicate_false _ _)⟩
  refine region_inRound hm (noDeferB_spec hd) hQ ?_
  have e2 : (l.drop n).length = l.toArray.size - n := by simp
  have := headO_any (g := l.toArray.size - n) (fun listed a' w' hL => by
    have := wpAny_of_seq (md := .any) (Q' := Q) (l.drop n) n listed a' w' (fun j => by simp [List.getElem?_drop]) (by rw [e2]; exact hL.1) (hL.2 w' (Below.refl _ _))
    rwa [e2] at this) _ _ _ w.drew h
  rw [show n + (l.toArray.size - n) = l.toArray.size by have := hn; omega] at this
  exact this
end
open Go.Shelf
attribute [local go_sem] Oper.semAt_some
theorem ix_line {x : Bs} (h : (10 : UInt8) ∉ x) (r : Bs) : Go.Lib.indexByte (x ++ 10 :: r) 10 = (x.length : Int) := by
  induction x with
  | nil => simp [Go.Lib.indexByte]
  | cons y x ih =>
    have hy : y ≠ 10 := fun e => h (by simp [e])
    have ih := ih (fun hm => h (by simp [hm]))
    simp only [List.cons_append, Go.Lib.indexByte, ih]
    simp [hy]
/-- What is left in the iterator's box. -/
def boxLeft (b : Nat) (W : World) : Nat := match W.heap[b]? with
  | some (Obj.cells cs _ _) => match cs[0]? with
    | some (Value.string s) => s.size
    | _ => 0
  | _ => 0
theorem boxLeft_eq {b : Nat} {W : World} {s : ByteArray} {t : TypeId} (h : W.heap[b]? = some (.cells #[.string s] t (0, 0))) : boxLeft b W = s.size := by
  unfold boxLeft
  rw [h]
  rfl
/-- The iterator's own steps. -/
def LnSt (b : Nat) (W1 W2 : World) : Prop := ∃ v, W2 = (W1.setCell ⟨b, 0, none⟩ v).drew
/-- A line, without its newline. -/
abbrev LnW (ws : List Bs) := { t : Bs // t ∈ ws }
set_option maxHeartbeats 1000000 in
theorem lines_box (n : Nat) (hn : 1 ≤ n) (b : Nat) (ws Ws : List Bs) (hin : ∀ x, x ∈ ws → x ∈ Ws) (hws : ∀ x, x ∈ ws → (10 : UInt8) ∉ x) (hlen : (lnT ws).length ≤ 1048576) (w : World) (hb : w.heap[b]? = some (.cells #[.string (bS (lnT ws))] 9 (0, 0))) :
    BoxSeq Fence.wide n Tryz.prog 96 #[.pointer (some ⟨b, 0, none⟩)] (fun x : LnW Ws => #[.string (bS (x.1 ++ [10]))]) b (LnSt b) (fun p => p.length ≤ ws.length) (fun xs => xs.map (·.1) = ws) w := by
  intro l J Jx W hW hSt hY h0
  have hbW := blk_below hb hW
  refine callsIn_of_wp Tryz.func96 rfl trivial ?_ rfl
  simp only [Tryz.ntmps96, List.size_toArray, List.length_cons, List.length_nil, Nat.reduceAdd, Nat.reduceSub, Array.replicate_succ, Array.replicate_zero, List.push_toArray, List.append_toArray, List.nil_append, List.cons_append]
  gi_wp2
  gi_loopw [3] (fun p wr => ∃ (pre : List (LnW Ws)) (rest : List Bs), ws = pre.map (·.1) ++ rest ∧ wr.heap[b]? = some (.cells #[.string (bS (lnT rest))] 9 (0, 0)) ∧ J pre wr)
    (fun p wr => boxLeft b wr)
  case atStart => exact ⟨[], ws, rfl, hbW, h0⟩
  case round =>
    obtain ⟨pre, rest, hx, hbr, hJ⟩ := hrel
    have c0 := blk_cell hbr 0
    have f0 := blk_frozen hbr 0
    simp only [List.getElem?_toArray, List.getElem?_cons_zero] at c0
    cases rest with
    | nil =>
      have e0 : (bS (lnT [])).size = 0 := rfl
      gi_wp2
      go_end0
      exact ⟨⟨_, rfl⟩, .inl ⟨_, by rw [hx, List.append_nil], hJ⟩⟩
    | cons x rest =>
      have hxm : x ∈ ws := by rw [hx]; simp
      have hx10 := hws x hxm
      have HI := Aside0.mk ((Tryz.strings_IndexByte (bS (lnT (x :: rest))) 10 wr).mono (fun e w' h => show e = .returned (.int .i64 (x.length : Int)) ∧ w' = wr by
        rw [bS_toList, show (Int.toNat 10).toUInt8 = 10 from rfl] at h
        rw [show lnT (x :: rest) = x ++ 10 :: lnT rest from rfl, ix_line hx10] at h
        exact h))
      have hsz : (bS (lnT (x :: rest))).size = x.length + 1 + (lnT rest).length := by rw [bS_size]; simp [lnT]; omega
      have hl1 : x.length + 1 + (lnT rest).length ≤ 1048576 := by
        have : (lnT ws).length = (lnT (pre.map (·.1))).length + (lnT (x :: rest)).length := by rw [hx, lnT_append, List.length_append]
        have h2 : (lnT (x :: rest)).length = x.length + 1 + (lnT rest).length := by simp [lnT]; omega
        omega
      have e9 : lnT (x :: rest) = (x ++ [10]) ++ lnT rest := by simp [lnT]
      have ex1 : (bS (lnT (x :: rest))).extract 0 (x.length + 1) = bS (x ++ [10]) := by
        rw [ext_bS, e9, List.drop_zero]
        exact congrArg bS (List.take_left' (by simp))
      have ex2 : (bS (lnT (x :: rest))).extract (x.length + 1) (x.length + 1 + (lnT rest).length) = bS (lnT rest) := by
        rw [ext_bS, e9, List.take_of_length_le (by simp; omega)]
        exact congrArg bS (List.drop_left' (by simp))
      clear e9
      have HM := Aside0.mk (boxLeft_eq hbr)
      have HSZ := Aside0.mk hsz
      generalize lnT (x :: rest) = y at *
      have k0 : (0 : Int) ≤ (x.length : Int) := by omega
      have k1 : (x.length : Int) + 1 ≤ ((bS y).size : Int) := by omega
      have k2 : 0 < (bS y).size := by omega
      gi_wp2_with (refine ⟨trivial, ?_⟩; gi_at_call 97; refine (callsIn_wide.2 HI.out).mono ?_; rintro _ w2 ⟨rfl, rfl⟩)
      gi_region
      have hJ3 := hSt _ _ ((w2.setCell ⟨b, 0, none⟩ (.string (bS (lnT rest)))).drew) hJ ⟨_, rfl⟩
      have hb3 : ((w2.setCell ⟨b, 0, none⟩ (.string (bS (lnT rest)))).drew).heap[b]? = some (.cells #[.string (bS (lnT rest))] 9 (0, 0)) := by
        have h7 := blk_set hbr 0 (.string (bS (lnT rest)))
        simp only [List.setIfInBounds_toArray, List.set_cons_zero] at h7
        exact h7
      clear hJ hbr c0 f0 HI
      have HM2 := Aside0.mk (show boxLeft b w2 = (bS y).size from HM.out)
      generalize World.drew _ = w3 at hJ3 hb3 ⊢
      obtain ⟨fn, tmps, assign, body, hy, hR⟩ := hY _ (⟨x, hin x hxm⟩ : LnW Ws) w3 (by rw [hx]; simp) hJ3
      gi_wp2
      refine hR.mono ?_
      rintro e W4 (⟨rfl, hJ4, hk⟩ | ⟨rfl, hJx⟩)
      · have hb4 := hk.trans hb3
        gi_wp2
        go_roundw
        case rel => exact ⟨pre ++ [⟨x, hin x hxm⟩], rest, by simp [hx], hb4, hJ4⟩
        case measure => rw [boxLeft_eq hb4, HM2.out, HSZ.out, bS_size]; omega
      · gi_wp2
        refine bodyPost_ret (results_none rfl _ _ _) rfl ?_
        exact ⟨⟨_, rfl⟩, .inr hJx⟩
set_option maxHeartbeats 1000000 in
theorem Lines_in (F : Fence) (n : Nat) (h5 : F.fn 68) (hro : F.round = none) (s : ByteArray) (w : World) :
    CallsIn F n Tryz.prog 68 #[.string s] w fun e w' => e = .returned (.func (.func 96) #[] #[.pointer (some ⟨w.heap.size, 0, none⟩)]) ∧ w' = w.alloc (.cells #[.string s] 9) := by
  refine callsIn_of_wp Tryz.func68 rfl h5 ?_ hro
  simp only [Tryz.ntmps68, List.size_toArray, List.length_cons, List.length_nil, Nat.reduceAdd, Nat.reduceSub, Array.replicate_succ, Array.replicate_zero, List.push_toArray, List.append_toArray, List.nil_append, List.cons_append]
  gi_wp2
  go_ret
  exact ⟨rfl, rfl⟩
open Go.Shelf
attribute [local go_sem] Oper.semAt_some
section
variable {F : Fence} {m : Nat} {ops : Array Oper} {rest : List Oper} {o : Oper} {a : Act} {Q : Exit → Act → World → Prop}
/-- append(out, b) in a round, beside boxes: what lies from B on but below G is no row's block. -/
theorem bk_appIn {w0 W : World} {B G : Nat} (hgd : o.guard = none) (s x : Operand) (ho : o.op = .call { callee := .builtin .append, args := #[s, x], argTypes := #[24, 24] }) (v : Value) (xs : List Bk) (b : Bk)
    (hs : a.eval s = v) (hx : a.eval x = .slice (some ⟨W.heap.size, 0, none⟩) 1 1) (HO : kBk.R 44 W B (fun k => G ≤ k) v xs) (HB : Below B w0 W) (hB : B ≤ W.heap.size) (hG : G ≤ W.heap.size) (hl : xs.length ≤ 2097152)
    (h : ∀ v1 w1, kBk.R 44 w1 B (fun k => G ≤ k) v1 (xs ++ [b]) → Below B w0 w1 → (∀ k, k < G → w1.heap[k]? = W.heap[k]?) → KeepsFrom G W w1 → wpListIn F m Tryz.prog ops Q rest (a.put o.dst v1) w1) :
    wpListIn F m Tryz.prog ops Q (o :: rest) a (W.alloc (.cells (Bk.cells b).toArray 44)) := by
  have HB' := Kd.R_bound HO
  obtain ⟨i0, hi, hz0, hz1, hz2⟩ := info_parts info_bk
  obtain ⟨h0, inner, hown, hr⟩ := HO
  refine wpListIn_plain hgd fun K hK' => ?_
  obtain ⟨v', w', hrun, r1, r2, r3, r4⟩ := run_append_own_at (P := Tryz.prog) (w := W.alloc (.cells (Bk.cells b).toArray 44)) B 24 o.type 44 i0 _ 8 14 Tryz.underlying24 hi hz0 hz1 hz2 rfl (by decide) v xs.length inner (hown.alloc _) ⟨W.heap.size, 0, none⟩ 1 1 (Bk.cells b) (by rfl)
    (by simpa using World.news_of_block (cs := (Bk.cells b).toArray) (t := 44) (fr := (0, 0)) (heap_alloc_new W (.cells (Bk.cells b).toArray 44))) (by simp [Bk.cells, Value.oneCell']) (by simp only [maxLen]; omega) (by omega) (by simp; omega)
  have hg : W.grownBy w' v.ownBlock := World.grownBy.trans (World.grownBy_alloc W _ _) r2
  have hR : kBk.R 44 w' B (fun k => G ≤ k) v' (xs ++ [b]) := Kd.R_appended (okp := fun _ => False) (cs := Bk.cells b) (p := b) h0 hr rfl (fun _ h => h.elim) (fun k hk => by omega) r1 hg (r4.imp id (fun h => ⟨_, h, by simp⟩))
  have hB2 : Below B w0 w' := (HB.alloc hB _).grown r2 (by simp; omega) (own_base hown)
  have hk1 : ∀ k, k < G → w'.heap[k]? = W.heap[k]? := fun k hk => hg.block k (by omega) (fun he => by have := h0 k he.symm; omega)
  have hk2 : KeepsFrom G W w' := ⟨hg.size, fun k ob _ hk ho' => (hg.block k (blk_lt hk) (fun he => by
    obtain ⟨_, _, _, q, _, cells, hc⟩ := HB'.1 k he.symm
    rw [hk] at hc
    rw [Option.some.inj hc] at ho'
    cases ho')).trans hk⟩
  unfold Oper.wpIn
  refine ⟨?_, ?_⟩
  · simp [Oper.about, ho, resolve, Target.leads, Sem.run_pure]
  · rw [Oper.semAt_plain F _ _ (by rw [ho]; intro c hc'; cases hc')]
    simp [execOp, ho, resolve, invoke, builtin, hs, hx, hrun, Result.andThen]
    exact hK' _ _ (h v' w' hR hB2 hk1 hk2)
end
theorem ln_mem {ws : List Bs} {t : Bs} (h : t ∈ ws) : t.length ≤ (lnT ws).length := by
  induction ws with
  | nil => cases h
  | cons x r ih =>
    rw [lnT, List.length_append, List.length_cons]
    rcases List.mem_cons.1 h with rfl | h
    · omega
    · have := ih h
      omega
/-- Between two rounds. -/
structure LnI (w : World) (ws : List Bs) (pre : List (LnW ws)) (W : World) : Prop where
  bx : W.heap[w.heap.size]? = some (.cells #[.func (.func 40) #[] #[]] 66 (0, 0))
  r1 : W.heap[w.heap.size + 1]? = some (.cells #[.slice none 0 0] 24 (0, 0))
  r2 : W.heap[w.heap.size + 2]? = some (.cells #[.bool false] 4 (0, 0))
  out : ∃ v, W.heap[w.heap.size + 3]? = some (.cells #[v] 24 (0, 0)) ∧ kBk.R 44 W w.heap.size (fun k => w.heap.size + 5 ≤ k) v (pre.map (fun t => bkV t.1))
  hb : Below w.heap.size w W
  ok : ∀ t, t ∈ pre → bkK t.1 = true
  sz : w.heap.size + 5 ≤ W.heap.size
/-- A line has been refused. -/
structure LnO (w : World) (ws : List Bs) (W : World) : Prop where
  r1 : W.heap[w.heap.size + 1]? = some (.cells #[.slice none 0 0] 24 (0, 0))
  r2 : W.heap[w.heap.size + 2]? = some (.cells #[.bool false] 4 (0, 0))
  hb : Below w.heap.size w W
  bad : ∃ t, t ∈ ws ∧ bkK t = false
theorem R_put {B : Nat} {ok : Nat → Prop} {v : Value} {L : List Bk} {W : World} {l : Nat} {o : Obj} (o' : Obj) (h : kBk.R 44 W B ok v L) (hl : W.heap[l]? = some o) (ho : o.isCells = false) : kBk.R 44 (W.putObj l o') B ok v L :=
  Kd.R_mono (Kd.R_step (Kd.R_bound h) (fun k hk _ => World.putObj_heap_other (fun e => by
    obtain ⟨_, _, _, q, _, cells, hc⟩ := hk
    rw [e, hl] at hc
    rw [Option.some.inj hc] at ho
    cases ho))) (fun k hk => hk.1)
theorem below_put {w W : World} {l : Nat} (o' : Obj) (h : Below w.heap.size w W) (hl : w.heap.size ≤ l) : Below w.heap.size w (W.putObj l o') :=
  h.trans ((Below.refl w.heap.size W).grown (grownBy_putObj' W l o') h.size (fun k e => by cases e; exact hl))
theorem LnI.put {w : World} {ws : List Bs} {pre : List (LnW ws)} {W : World} {l : Nat} {o : Obj} (o' : Obj) (h : LnI w ws pre W) (hl5 : w.heap.size + 5 ≤ l) (hl : W.heap[l]? = some o) (ho : o.isCells = false) : LnI w ws pre (W.putObj l o') := by
  obtain ⟨v, h1, h2⟩ := h.out
  exact ⟨(World.putObj_heap_other (by omega)).trans h.bx, (World.putObj_heap_other (by omega)).trans h.r1, (World.putObj_heap_other (by omega)).trans h.r2, ⟨v, (World.putObj_heap_other (by omega)).trans h1, R_put o' h2 hl ho⟩, below_put o' h.hb (by omega), h.ok, by rw [World.putObj_size]; exact h.sz⟩
theorem LnO.put {w : World} {ws : List Bs} {W : World} {l : Nat} (o' : Obj) (h : LnO w ws W) (hl5 : w.heap.size + 5 ≤ l) : LnO w ws (W.putObj l o') :=
  ⟨(World.putObj_heap_other (by omega)).trans h.r1, (World.putObj_heap_other (by omega)).trans h.r2, below_put o' h.hb (by omega), h.bad⟩
theorem LnI.st {w : World} {ws : List Bs} {pre : List (LnW ws)} {W W' : World} (h : LnI w ws pre W) (hs : LnSt (w.heap.size + 4) W W') : LnI w ws pre W' := by
  obtain ⟨u, rfl⟩ := hs
  obtain ⟨v, h1, h2⟩ := h.out
  have hR := Kd.R_far h2 (p := ⟨w.heap.size + 4, 0, none⟩) (fun k hk => by show k ≠ w.heap.size + 4; omega) u
  exact ⟨blk_far h.bx (p := ⟨w.heap.size + 4, 0, none⟩) (by show w.heap.size ≠ w.heap.size + 4; omega) u, blk_far h.r1 (p := ⟨w.heap.size + 4, 0, none⟩) (by show w.heap.size + 1 ≠ w.heap.size + 4; omega) u, blk_far h.r2 (p := ⟨w.heap.size + 4, 0, none⟩) (by show w.heap.size + 2 ≠ w.heap.size + 4; omega) u,
    ⟨v, blk_far h1 (p := ⟨w.heap.size + 4, 0, none⟩) (by show w.heap.size + 3 ≠ w.heap.size + 4; omega) u, Kd.R_step hR (fun _ _ _ => rfl)⟩, bdrew (Below.setCell h.hb (p := ⟨w.heap.size + 4, 0, none⟩) (by show w.heap.size ≤ w.heap.size + 4; omega) u), h.ok, by
      have := h.sz
      simpa using this⟩
theorem LnI.below {w : World} {ws : List Bs} {pre : List (LnW ws)} {W W' : World} (h : LnI w ws pre W) (hb : Below W.heap.size W W') : LnI w ws pre W' := by
  obtain ⟨v, h1, h2⟩ := h.out
  exact ⟨blk_below h.bx hb, blk_below h.r1 hb, blk_below h.r2 hb, ⟨v, blk_below h1 hb, Kd.R_below h2 hb⟩, bstep h.hb hb, h.ok, Nat.le_trans h.sz hb.size⟩
/-- The world where the loop begins. -/
def lnW0 (w : World) (s : ByteArray) : World := ((((w.alloc (.cells #[.func (.func 40) #[] #[]] 66)).alloc (.cells #[.slice none 0 0] 24)).alloc (.cells #[.bool false] 4)).alloc (.cells #[.slice none 0 0] 24)).alloc (.cells #[.string s] 9)
theorem lnW0_size (w : World) (s : ByteArray) : (lnW0 w s).heap.size = w.heap.size + 5 := by simp [lnW0]
theorem lnW0_box (w : World) (s : ByteArray) : (lnW0 w s).heap[w.heap.size + 4]? = some (.cells #[.string s] 9 (0, 0)) := by
  have h := blk_new ((((w.alloc (.cells #[.func (.func 40) #[] #[]] 66)).alloc (.cells #[.slice none 0 0] 24)).alloc (.cells #[.bool false] 4)).alloc (.cells #[.slice none 0 0] 24)) (.cells #[.string s] 9)
  simp only [World.size_alloc] at h
  exact h
theorem LnI.start (w : World) (ws : List Bs) (s : ByteArray) : LnI w ws [] (lnW0 w s) := by
  have h0 := blk_new w (.cells #[.func (.func 40) #[] #[]] 66)
  have h1 := blk_new (w.alloc (.cells #[.func (.func 40) #[] #[]] 66)) (.cells #[.slice none 0 0] 24)
  have h2 := blk_new ((w.alloc (.cells #[.func (.func 40) #[] #[]] 66)).alloc (.cells #[.slice none 0 0] 24)) (.cells #[.bool false] 4)
  have h3 := blk_new (((w.alloc (.cells #[.func (.func 40) #[] #[]] 66)).alloc (.cells #[.slice none 0 0] 24)).alloc (.cells #[.bool false] 4)) (.cells #[.slice none 0 0] 24)
  simp only [World.size_alloc] at h1 h2 h3
  exact ⟨blk_alloc (blk_alloc (blk_alloc (blk_alloc h0 _) _) _) _, blk_alloc (blk_alloc (blk_alloc h1 _) _) _, blk_alloc (blk_alloc h2 _) _, ⟨_, blk_alloc h3 _, Kd.R_nil _ _ _ _ _⟩, balloc (balloc (balloc (balloc (balloc (Below.refl _ _) _) _) _) _) _, fun t ht => (by cases ht), (by rw [lnW0_size]; exact Nat.le_refl _)⟩
theorem LnI.alloc {w : World} {ws : List Bs} {pre : List (LnW ws)} {W : World} (h : LnI w ws pre W) (o : Obj) : LnI w ws pre (W.alloc o) := by
  obtain ⟨v, h1, h2⟩ := h.out
  exact ⟨blk_alloc h.bx o, blk_alloc h.r1 o, blk_alloc h.r2 o, ⟨v, blk_alloc h1 o, Kd.R_alloc h2 o⟩, balloc h.hb o, h.ok, by rw [World.size_alloc]; have := h.sz; omega⟩
theorem trim_nl (t : Bs) : (⟨(Go.Lib.trimSuffix (t ++ [10]) [10]).toArray⟩ : ByteArray) = bS t := by
  have h : Go.Lib.hasSuffix (t ++ [10]) [10] = true := by
    unfold Go.Lib.hasSuffix
    rw [List.isSuffixOf_iff_suffix]
    exact ⟨t, rfl⟩
  unfold Go.Lib.trimSuffix
  rw [if_pos h]
  show bS _ = bS t
  congr 1
  simp
/-- A list handed back, and whether. -/
def TupBB (w : World) (L : List Bk) (k : Bool) (v : Value) (w' : World) : Prop := ∃ v1, v = .tuple #[v1, .bool k] ∧ NewBk w L v1 w'
theorem sfx_no {p a : Bs} (h : (10 : UInt8) ∉ a) (ha : a ≠ []) : Go.Lib.hasSuffix (p ++ a) [10] = false := by
  unfold Go.Lib.hasSuffix
  cases hb : List.isSuffixOf [10] (p ++ a)
  · rfl
  · obtain ⟨q, hq⟩ := List.isSuffixOf_iff_suffix.1 hb
    have h1 : (q ++ [10]).getLast? = (p ++ a).getLast? := by rw [hq]
    rw [List.getLast?_append, List.getLast?_append] at h1
    obtain ⟨x, hx⟩ : ∃ x, a.getLast? = some x := Option.isSome_iff_exists.1 (by rw [List.getLast?_isSome]; exact ha)
    rw [hx] at h1
    simp at h1
    exact absurd (h1 ▸ List.mem_of_getLast? hx) h
theorem sfx_yes {ws : List Bs} (h : ws ≠ []) : Go.Lib.hasSuffix (lnT ws) [10] = true := by
  unfold Go.Lib.hasSuffix
  rw [List.isSuffixOf_iff_suffix]
  obtain ⟨r, x, hr⟩ : ∃ r x, ws = r ++ [x] := by
    obtain ⟨r, x, e⟩ := (List.eq_nil_or_concat ws).resolve_left h
    exact ⟨r, x, by rw [e, List.concat_eq_append]⟩
  rw [hr, lnT_snoc]
  exact ⟨lnT r ++ x, by simp⟩
theorem tupBB_no {w W : World} {l : Bs} (h : lsV l = [] ∧ lsE l = 5) : TupBB w (lsV l) (lsE l == 0) (.tuple #[.slice none 0 0, .bool false]) W := by
  rw [h.1, h.2]
  exact ⟨_, rfl, Kd.R_nil _ _ _ _ _⟩
theorem keeps_below {W W' : World} (h : Below W.heap.size W W') (B : Nat) : KeepsFrom B W W' := ⟨h.size, fun k o _ hk _ => (h.block k (blk_lt hk)).trans hk⟩
theorem keeps_set {B : Nat} {W W' : World} {p : Addr} (h : KeepsFrom B W W') (hp : p.block < B) (v : Value) : KeepsFrom B W (W'.setCell p v) :=
  ⟨by have := h.size; simpa using this, fun k o hk h1 h2 => (Below.heap_setCell W' p v k (by omega)).trans (h.same k o hk h1 h2)⟩
theorem LnI.stop {w : World} {ws : List Bs} {pre : List (LnW ws)} {W : World} (h : LnI w ws pre W) {t : Bs} (ht : t ∈ ws) (hk : bkK t = false) :
    LnO w ws ((W.setCell ⟨w.heap.size + 1, 0, none⟩ (.slice none 0 0)).setCell ⟨w.heap.size + 2, 0, none⟩ (.bool false)) :=
  ⟨blk_far (blk_set h.r1 0 (.slice none 0 0)) (p := ⟨w.heap.size + 2, 0, none⟩) (by show w.heap.size + 1 ≠ w.heap.size + 2; omega) _, blk_set (blk_far h.r2 (p := ⟨w.heap.size + 1, 0, none⟩) (by show w.heap.size + 2 ≠ w.heap.size + 1; omega) _) 0 (.bool false),
    Below.setCell (Below.setCell h.hb (p := ⟨w.heap.size + 1, 0, none⟩) (by show w.heap.size ≤ w.heap.size + 1; omega) _) (p := ⟨w.heap.size + 2, 0, none⟩) (by show w.heap.size ≤ w.heap.size + 2; omega) _, t, ht, hk⟩
theorem LnI.next {w : World} {ws : List Bs} {pre : List (LnW ws)} {W w9 : World} {v : Value} {rb : Bk} {x : LnW ws} (h : LnI w ws pre W) (hk : ∀ k, k < w.heap.size + 5 → w9.heap[k]? = W.heap[k]?)
    (hR : kBk.R 44 w9 w.heap.size (fun k => w.heap.size + 5 ≤ k) v (pre.map (fun t => bkV t.1) ++ [rb])) (hB : Below w.heap.size w w9) (hx : bkK x.1 = true) (hv : rb = bkV x.1) (hs : W.heap.size ≤ w9.heap.size) :
    LnI w ws (pre ++ [x]) (w9.setCell ⟨w.heap.size + 3, 0, none⟩ v) := by
  obtain ⟨u, h3, _⟩ := h.out
  have hsz := h.sz
  refine ⟨blk_far ((hk _ (by omega)).trans h.bx) (p := ⟨w.heap.size + 3, 0, none⟩) (by show w.heap.size ≠ w.heap.size + 3; omega) _, blk_far ((hk _ (by omega)).trans h.r1) (p := ⟨w.heap.size + 3, 0, none⟩) (by show w.heap.size + 1 ≠ w.heap.size + 3; omega) _, blk_far ((hk _ (by omega)).trans h.r2) (p := ⟨w.heap.size + 3, 0, none⟩) (by show w.heap.size + 2 ≠ w.heap.size + 3; omega) _,
    ⟨v, blk_set ((hk _ (by omega)).trans h3) 0 v, ?_⟩, Below.setCell hB (p := ⟨w.heap.size + 3, 0, none⟩) (by show w.heap.size ≤ w.heap.size + 3; omega) _, fun t ht => ?_, by simp; omega⟩
  · rw [List.map_append, List.map_cons, List.map_nil, ← hv]
    exact Kd.R_far hR (p := ⟨w.heap.size + 3, 0, none⟩) (fun k hk => by show k ≠ w.heap.size + 3; omega) _
  · rcases List.mem_append.1 ht with ht | ht
    · exact h.ok t ht
    · rw [List.mem_singleton.1 ht]; exact hx
/-- What the operations of a round keep: only blocks that are new in the round change. -/
def KL (w0 : World) (b w : World) : Prop := Below w0.heap.size w0 b → Below w0.heap.size w0 w
theorem kL (w0 : World) : Keep (KL w0) := ⟨fun h hb => bstep hb h, fun h k hb => k (h hb)⟩
/-- A book has been read into a block of its own. -/
def LnQ (A1 : Nat → Act) (W : World) (rb : Bk) (e : Exit) (a' : Act) (W' : World) : Prop := ∃ g, e = .normal ∧ a' = A1 g ∧ Below W.heap.size W W' ∧ W'.heap[g]? = some (.cells (bkCs rb) 44 (0, 0)) ∧ W.heap.size ≤ g
set_option maxHeartbeats 16000000 in
theorem readLines_c (l : Bs) (hl : l.length ≤ 1048576) (w : World) (ht : Txt w) :
    Calls Tryz.prog 39 #[.string (bS l), .int .i64 60, .func (.func 40) #[] #[]] w (RetQ w (TupBB w (lsV l) (lsE l == 0))) := by
  obtain ⟨ws, a, hla, ha10, hws10, hs, hct⟩ := lines_of l
  have HBD := Aside0.mk (fun h => ls_of (ls_bad hs h 5))
  have HGD := Aside0.mk (fun (h : a = []) (hn : ws.length ≤ 60) (hk : ∀ w, w ∈ ws → bkK w = true) => ls_all (by rw [hs, h]) hn hk)
  have hsz : (bS l).size ≤ 9223372036854775807 := by rw [bS_size]; omega
  have HSX := Aside0.mk (fun W => Tryz.strings_HasSuffix (bS l) (bS [10]) W hsz)
  have HCT0 := Aside0.mk (fun W => Tryz.strings_Count_one (bS l) 10 W)
  rw [bS_toList] at HSX HCT0
  rw [bS_toList] at HSX
  unfold Go.Lib.countByte at HCT0
  have HT := Aside0.mk ht
  clear hs ht
  by_cases ha : a = []
  · rw [ha, List.append_nil] at hla
    rw [hct] at HCT0
    have HCT := HCT0
    clear HCT0
    by_cases h60 : 60 < ws.length
    · have HN := Aside0.mk (HBD.out (.inr (.inl h60)))
      have hi60 : (60 : Int) < (ws.length : Int) := by omega
      have hwne : ws ≠ [] := fun h => by rw [h] at h60; cases h60
      have hlne : l ≠ [] := fun h => by rw [h] at hct; rw [← hct] at h60; cases h60
      have hne : (bS l).toList.isEmpty = false := by rw [bS_list]; simpa using hlne
      have hne2 : ¬ (bS l).toList = [] := by rw [bS_list]; exact hlne
      rw [show Go.Lib.hasSuffix l [10] = true by rw [hla]; exact sfx_yes hwne] at HSX
      clear hla hct ha HBD HGD h60 hlne hwne
      refine (callsIn_wide (n := 3)).1 ?_
      refine callsIn_of_wp_marks Tryz.func39 rfl trivial ?_ rfl
      simp only [Tryz.ntmps39, List.size_toArray, List.length_cons, List.length_nil, Nat.reduceAdd, Nat.reduceSub, Array.replicate_succ, Array.replicate_zero, List.push_toArray, List.append_toArray, List.nil_append, List.cons_append]
      gi_wp2_with (first | (refine ⟨trivial, ?_⟩; gi_at_call 66; refine (callsIn_wide.2 (HSX.out _)).mono ?_; rintro _ w2 ⟨rfl, rfl⟩) | (refine ⟨trivial, ?_⟩; gi_at_call 67; refine (callsIn_wide.2 (HCT.out _)).mono ?_; rintro _ w2 ⟨rfl, rfl⟩))
      refine ⟨.tuple #[.slice none 0 0, .bool false], by simp [results, Tryz.results39, go_sem], _, rfl, balloc (balloc (balloc (Below.refl _ _) _) _) _, tupBB_no HN.out⟩
    · have hi60 : ¬ (60 : Int) < (ws.length : Int) := by omega
      have hwl : (lnT ws).length ≤ 1048576 := by rw [← hla]; exact hl
      have HGO := Aside0.mk (HGD.out ha (by omega))
      have HBO := Aside0.mk (fun (h : ∃ w, w ∈ ws ∧ bkK w = false) => HBD.out (.inr (.inr ⟨h.choose, h.choose_spec.1, bk_none h.choose_spec.2⟩)))
      clear ha HBD HGD h60
      by_cases hwne : ws = []
      · have hne : (bS l).toList.isEmpty = true := by rw [bS_list, hla, hwne]; rfl
        have hne2 : (bS l).toList = [] := by rw [bS_list, hla, hwne]; rfl
        have HLA := Aside0.mk hla
        have HWN := Aside0.mk hwne
        clear hla hct hwne
        refine (callsIn_wide (n := 3)).1 ?_
        refine callsIn_of_wp_marks Tryz.func39 rfl trivial ?_ rfl
        simp only [Tryz.ntmps39, List.size_toArray, List.length_cons, List.length_nil, Nat.reduceAdd, Nat.reduceSub, Array.replicate_succ, Array.replicate_zero, List.push_toArray, List.append_toArray, List.nil_append, List.cons_append]
        gi_wp2_with (first | (refine ⟨trivial, ?_⟩; gi_at_call 67; refine (callsIn_wide.2 (HCT.out _)).mono ?_; rintro _ w2 ⟨rfl, rfl⟩) | (refine ⟨trivial, ?_⟩; gi_at_call 68; refine (Lines_in Fence.wide _ trivial rfl _ _).mono ?_; rintro _ w2 ⟨rfl, rfl⟩))
        refine ⟨trivial, ?_⟩
        gi_wp2_with (first | (refine ⟨trivial, ?_⟩; gi_at_call 67; refine (callsIn_wide.2 (HCT.out _)).mono ?_; rintro _ w2 ⟨rfl, rfl⟩) | (refine ⟨trivial, ?_⟩; gi_at_call 68; refine (Lines_in Fence.wide _ trivial rfl _ _).mono ?_; rintro _ w2 ⟨rfl, rfl⟩))
        refine range_box (n := 3) rfl (by decide) (gf := 96) (lb := #[.pointer (some ⟨w.heap.size + 4, 0, none⟩)]) (w := lnW0 w (bS l)) rfl trivial (enters_of Tryz.func96 (by kernel_rfl) rfl) (encs := fun x : LnW ws => #[.string (bS (x.1 ++ [10]))]) (fun _ => rfl) (b := w.heap.size + 4) (lines_box 2 (by decide) (w.heap.size + 4) ws ws (fun _ h => h) hws10 hwl (lnW0 w (bS l)) (by have h9 := lnW0_box w (bS l); rw [HLA.out] at h9 ⊢; exact h9)) (by rw [lnW0_size]; omega)
          (LnI w ws) (LnO w ws) (fun pre W q o o' hi hq ho hc => hi.put o' (by rw [lnW0_size] at hq; exact hq) ho hc) (fun W q o o' hi hq ho hc => hi.put o' (by rw [lnW0_size] at hq; exact hq)) (fun pre W W' hi hs => hi.st hs)
          (fun W W' k o hs hk ho hc => by
            obtain ⟨u, rfl⟩ := hs
            rw [lnW0_size] at hk
            exact (Below.heap_setCell W ⟨w.heap.size + 4, 0, none⟩ u k (by show k ≠ w.heap.size + 4; omega)).trans ho)
          (fun o o' => ((LnI.start w ws (bS l)).alloc o).alloc o') ?a1 ?assign ?body ?done ?stop
        case assign =>
          intro q x W K hK
          gi_wp2
          exact hK
        case body =>
          intro q pre x W hsp hI
          exact absurd x.2 (by have h9 := HWN.out; rw [List.eq_nil_iff_forall_not_mem] at h9; exact h9 _)
        case done =>
          intro D xs W hD hS hI hK
          rw [lnW0_size] at hD
          obtain ⟨v, h1, h2⟩ := hI.out
          obtain ⟨A9, c9, rfl, hc9, _⟩ := Kd.R_reads h2
          have c3 := blk_cell h1 0
          have f3 := blk_frozen h1 0
          have c1 := blk_cell hI.r1 0
          have f1 := blk_frozen hI.r1 0
          have c2 := blk_cell hI.r2 0
          have f2 := blk_frozen hI.r2 0
          simp only [List.getElem?_toArray, List.getElem?_cons_zero] at c1 c2 c3
          have HN := Aside0.mk (HGO.out (fun t ht => by
            rw [← hS] at ht
            obtain ⟨y, hy, rfl⟩ := List.mem_map.1 ht
            exact hI.ok y hy))
          have HM := Aside0.mk (show xs.map (fun t => bkV t.1) = ws.map bkV by rw [← congrArg (List.map bkV) hS, List.map_map]; rfl)
          gi_wp2
          have HR2 := Aside0.mk (Kd.R_far (Kd.R_far h2 (p := ⟨w.heap.size + 1, 0, none⟩) (fun k hk => by show k ≠ w.heap.size + 1; omega) (.slice A9 xs.length c9)) (p := ⟨w.heap.size + 2, 0, none⟩) (fun k hk => by show k ≠ w.heap.size + 2; omega) (.bool true))
          have b1 := blk_far (blk_set hI.r1 0 (.slice A9 xs.length c9)) (p := ⟨w.heap.size + 2, 0, none⟩) (by show w.heap.size + 1 ≠ w.heap.size + 2; omega) (.bool true)
          have b2 := blk_set (blk_far hI.r2 (p := ⟨w.heap.size + 1, 0, none⟩) (by show w.heap.size + 2 ≠ w.heap.size + 1; omega) (.slice A9 xs.length c9)) 0 (.bool true)
          have kD := (Below.heap_setCell (W.setCell ⟨w.heap.size + 1, 0, none⟩ (.slice A9 xs.length c9)) ⟨w.heap.size + 2, 0, none⟩ (.bool true) D (by show D ≠ w.heap.size + 2; omega)).trans ((Below.heap_setCell W ⟨w.heap.size + 1, 0, none⟩ (.slice A9 xs.length c9) D (by show D ≠ w.heap.size + 1; omega)).trans hK)
          have HB2 := Aside0.mk (Below.setCell (Below.setCell hI.hb (p := ⟨w.heap.size + 1, 0, none⟩) (by show w.heap.size ≤ w.heap.size + 1; omega) (.slice A9 xs.length c9)) (p := ⟨w.heap.size + 2, 0, none⟩) (by show w.heap.size ≤ w.heap.size + 2; omega) (.bool true))
          simp only [List.setIfInBounds_toArray, List.set_cons_zero] at b1 b2
          change bodyPostM _ _ _ _ _ _ _ ((W.setCell ⟨w.heap.size + 1, 0, none⟩ (.slice A9 xs.length c9)).setCell ⟨w.heap.size + 2, 0, none⟩ (.bool true))
          generalize (W.setCell ⟨w.heap.size + 1, 0, none⟩ (.slice A9 xs.length c9)).setCell ⟨w.heap.size + 2, 0, none⟩ (.bool true) = W2 at HR2 b1 b2 kD HB2 ⊢
          have q1 : (W2.putObj D (.deferred none)).cell? ⟨w.heap.size + 1, 0, none⟩ = some (.slice A9 xs.length c9) := blk_cell ((World.putObj_heap_other (by omega)).trans b1) 0
          have q2 : (W2.putObj D (.deferred none)).cell? ⟨w.heap.size + 1 + 1, 0, none⟩ = some (.bool true) := blk_cell ((World.putObj_heap_other (by omega)).trans b2) 0
          refine ⟨by simp, .inl ⟨_, _, rfl, run_takeDeferred kD, ?_⟩⟩
          refine ⟨.tuple #[.slice A9 xs.length c9, .bool true], by simp [results, Tryz.results39, go_sem, q1, q2], _, rfl, below_put _ HB2.out (by omega), ?_⟩
          rw [HN.out.1, HN.out.2, ← HM.out]
          have h9 := Kd.R_mono (R_put (.deferred none) HR2.out kD rfl) (fun _ _ => trivial)
          rw [List.length_map] at h9
          exact ⟨_, rfl, h9⟩
        case stop =>
          intro D W hD hO hK
          rw [lnW0_size] at hD
          have c1 := blk_cell hO.r1 0
          have c2 := blk_cell hO.r2 0
          simp only [List.getElem?_toArray, List.getElem?_cons_zero] at c1 c2
          have HN := Aside0.mk (HBO.out hO.bad)
          gi_wp2
          have q1 : (W.putObj D (.deferred none)).cell? ⟨w.heap.size + 1, 0, none⟩ = some (.slice none 0 0) := blk_cell ((World.putObj_heap_other (by omega)).trans hO.r1) 0
          have q2 : (W.putObj D (.deferred none)).cell? ⟨w.heap.size + 1 + 1, 0, none⟩ = some (.bool false) := blk_cell ((World.putObj_heap_other (by omega)).trans hO.r2) 0
          refine ⟨by simp, .inl ⟨_, _, rfl, run_takeDeferred hK, ?_⟩⟩
          exact ⟨.tuple #[.slice none 0 0, .bool false], by simp [results, Tryz.results39, go_sem, q1, q2], _, rfl, below_put _ hO.hb (by omega), tupBB_no HN.out⟩
      · have hlne : l ≠ [] := fun h => by
          rw [h] at hla
          cases ws with
          | nil => exact hwne rfl
          | cons y r => have := congrArg List.length hla; simp [lnT] at this
        have hne : (bS l).toList.isEmpty = false := by rw [bS_list]; simpa using hlne
        have hne2 : ¬ (bS l).toList = [] := by rw [bS_list]; exact hlne
        rw [show Go.Lib.hasSuffix l [10] = true by rw [hla]; exact sfx_yes hwne] at HSX
        have HLA := Aside0.mk hla
        clear hla hct hwne hlne
        refine (callsIn_wide (n := 3)).1 ?_
        refine callsIn_of_wp_marks Tryz.func39 rfl trivial ?_ rfl
        simp only [Tryz.ntmps39, List.size_toArray, List.length_cons, List.length_nil, Nat.reduceAdd, Nat.reduceSub, Array.replicate_succ, Array.replicate_zero, List.push_toArray, List.append_toArray, List.nil_append, List.cons_append]
        gi_wp2_with (first | (refine ⟨trivial, ?_⟩; gi_at_call 66; refine (callsIn_wide.2 (HSX.out _)).mono ?_; rintro _ w2 ⟨rfl, rfl⟩) | (refine ⟨trivial, ?_⟩; gi_at_call 67; refine (callsIn_wide.2 (HCT.out _)).mono ?_; rintro _ w2 ⟨rfl, rfl⟩) | (refine ⟨trivial, ?_⟩; gi_at_call 68; refine (Lines_in Fence.wide _ trivial rfl _ _).mono ?_; rintro _ w2 ⟨rfl, rfl⟩))
        refine range_box (n := 3) rfl (by decide) (gf := 96) (lb := #[.pointer (some ⟨w.heap.size + 4, 0, none⟩)]) (w := lnW0 w (bS l)) rfl trivial (enters_of Tryz.func96 (by kernel_rfl) rfl) (encs := fun x : LnW ws => #[.string (bS (x.1 ++ [10]))]) (fun _ => rfl) (b := w.heap.size + 4) (lines_box 2 (by decide) (w.heap.size + 4) ws ws (fun _ h => h) hws10 hwl (lnW0 w (bS l)) (by have h9 := lnW0_box w (bS l); rw [HLA.out] at h9 ⊢; exact h9)) (by rw [lnW0_size]; omega)
          (LnI w ws) (LnO w ws) (fun pre W q o o' hi hq ho hc => hi.put o' (by rw [lnW0_size] at hq; exact hq) ho hc) (fun W q o o' hi hq ho hc => hi.put o' (by rw [lnW0_size] at hq; exact hq)) (fun pre W W' hi hs => hi.st hs)
          (fun W W' k o hs hk ho hc => by
            obtain ⟨u, rfl⟩ := hs
            rw [lnW0_size] at hk
            exact (Below.heap_setCell W ⟨w.heap.size + 4, 0, none⟩ u k (by show k ≠ w.heap.size + 4; omega)).trans ho)
          (fun o o' => ((LnI.start w ws (bS l)).alloc o).alloc o') ?a2 ?assign2 ?body2 ?done2 ?stop2
        case assign2 =>
          intro q x W K hK
          gi_wp2
          exact hK
        case body2 =>
          intro q pre x Wr hsp hI
          have HI := Aside0.mk hI
          have HSP := Aside0.mk hsp
          clear hsp
          have HTS := Aside0.mk (fun W' => (Tryz.strings_TrimSuffix (bS (x.1 ++ [10])) (bS [10]) W' (by rw [bS_size]; have := ln_mem x.2; simp; omega)).mono (fun e w' h => show Ret W' (.string (bS x.1)) e w' by
            rw [bS_toList, bS_toList, trim_nl] at h
            exact ⟨h.1, by rw [h.2]; exact Below.refl _ _⟩))
          have HRB := Aside0.mk (fun W' (h : Below w.heap.size w W') => readBook_c x.1 (Nat.le_trans (ln_mem x.2) hwl) W' (HT.out.below h))
          have HVV := Aside0.mk (fun (h : bkK x.1 = true) => rb_ok h)
          have hbW := Aside0.mk HI.out.hb
          simp only [Bk.val] at HRB
          generalize rbV x.1 = rb at HRB HVV
          generalize hkk : bkK x.1 = kk at HRB HVV
          have HKK := Aside0.mk hkk
          clear hkk hI
          gi_wp2
          apply wpIn_mono (Q := LnQ _ Wr rb)
          · refine regionIn_HO (G := KL Wr) 9 (by kernel_rfl) (by kernel_rfl) (by rintro ⟨_, _, _, h, _⟩; cases h) (by kernel_rfl) ?_
            have c0 := blk_cell HI.out.bx 0
            simp only [List.getElem?_toArray, List.getElem?_cons_zero] at c0
            have hKL := kL Wr
            have HA := Aside0.mk (show Below Wr.heap.size Wr Wr.drew from bdrew (Below.refl _ _))
            generalize World.drew Wr = wb at HA ⊢
            refine HO_take hKL (i := 0) (v := ?_) rfl (by kernel_rfl) (by kernel_rfl) (by kernel_rfl) (by decide) (fun _ _ _ h => by obtain ⟨_, h, _⟩ := h; cases h) (fun b' hb' => Or.inl ⟨by kernel_rfl, fun W hW => ?_⟩) ?_
            rotate_left
            · have hW' := bstep (hb' HA.out) hW
              have q_0 := pw_cell_below hW' c0
              go_simp
              with_reducible rfl
            refine HO_take hKL (i := 1) (v := ?_) rfl (by kernel_rfl) (by kernel_rfl) (by kernel_rfl) (by decide) (fun _ _ _ h => by obtain ⟨_, h, _⟩ := h; cases h) (fun b' hb' => Or.inl ⟨by kernel_rfl, fun W hW => ?_⟩) ?_
            rotate_left
            · have hW' := bstep (hb' HA.out) hW
              go_simp
              with_reducible rfl
            refine HO_take hKL (i := 2) (v := .string (bS x.1)) rfl (by kernel_rfl) (by kernel_rfl) (by kernel_rfl) (by decide) (fun _ _ _ h => by obtain ⟨_, h, _⟩ := h; cases h) (fun b' hb' => Or.inl ⟨by kernel_rfl, fun W hW => ?_⟩) ?_
            · have hW' := bstep (hb' HA.out) hW
              go_simp
              exact (HTS.out W).mono (fun _ _ h => ⟨h.1, hW.step h.2⟩)
            refine HO_take hKL (i := 3) (v := .tuple #[.agg #[.int .i16 rb.c, .int .u8 rb.m0, .int .u8 rb.m1, .int .u8 rb.m2, .int .i16 rb.v, .int .i16 rb.wd, .int .i16 rb.h, .int .i16 rb.wt], .bool kk]) rfl (by kernel_rfl) (by kernel_rfl) (by kernel_rfl) (by decide) (fun _ _ _ h => by obtain ⟨_, h, _⟩ := h; cases h) (fun b' hb' => Or.inl ⟨by kernel_rfl, fun W hW => ?_⟩) ?_
            · have hW' := bstep (hb' HA.out) hW
              go_simp
              exact (HRB.out W (bstep hbW.out hW')).mono (fun _ _ h => ⟨h.1, hW.step h.2⟩)
            refine HO_take hKL (i := 4) (v := ?_) rfl (by kernel_rfl) (by kernel_rfl) (by kernel_rfl) (by decide) (fun _ _ _ h => by obtain ⟨_, h, _⟩ := h; cases h) (fun b' hb' => Or.inl ⟨by kernel_rfl, fun W hW => ?_⟩) ?_
            rotate_left
            · have hW' := bstep (hb' HA.out) hW
              go_simp
              with_reducible rfl
            refine HO_take hKL (i := 5) (v := ?_) rfl (by kernel_rfl) (by kernel_rfl) (by kernel_rfl) (by decide) (fun _ _ _ h => by obtain ⟨_, h, _⟩ := h; cases h) (fun b' hb' => Or.inl ⟨by kernel_rfl, fun W hW => ?_⟩) ?_
            rotate_left
            · have hW' := bstep (hb' HA.out) hW
              go_simp
              with_reducible rfl
            refine HO_take hKL (i := 6) (v := ?_) rfl (by kernel_rfl) (by kernel_rfl) (by kernel_rfl) (by decide) (fun _ _ _ h => by obtain ⟨_, h, _⟩ := h; cases h) (fun b' hb' => Or.inl ⟨by kernel_rfl, fun W hW => ?_⟩) ?_
            rotate_left
            · have hW' := bstep (hb' HA.out) hW
              go_simp
              with_reducible rfl
            clear c0
            refine HO_step (i := 7) rfl (by kernel_rfl) (by decide) (by kernel_rfl) (fun W2 hW2 K hK => ?_)
            go_simp
            refine hK _ _ (hKL.of (balloc (Below.refl _ _) _)) ?_
            clear hK K
            have HY := Aside0.mk (blk_new W2 (.cells #[.int .i16 0, .int .u8 0, .int .u8 0, .int .u8 0, .int .i16 0, .int .i16 0, .int .i16 0, .int .i16 0] 44))
            have HA2 := Aside0.mk (balloc (bstep HA.out hW2) (.cells #[.int .i16 0, .int .u8 0, .int .u8 0, .int .u8 0, .int .i16 0, .int .i16 0, .int .i16 0, .int .i16 0] 44))
            have HG := Aside0.mk (show Wr.heap.size ≤ W2.heap.size from Nat.le_trans HA.out.size hW2.size)
            clear hW2
            generalize World.alloc W2 _ = W3 at HY HA2 ⊢
            generalize W2.heap.size = g at HY HG ⊢
            refine HO_step (i := 8) rfl (by kernel_rfl) (by decide) (by kernel_rfl) (fun W4 hW4 K hK => ?_)
            have hy := blk_below HY.out hW4
            have HA4 := Aside0.mk (bstep HA2.out hW4)
            clear hW4
            have c0 := blk_cell hy 0
            have f0 := blk_frozen hy 0
            have c1 := blk_cell hy 1
            have f1 := blk_frozen hy 1
            have c2 := blk_cell hy 2
            have f2 := blk_frozen hy 2
            have c3 := blk_cell hy 3
            have f3 := blk_frozen hy 3
            have c4 := blk_cell hy 4
            have f4 := blk_frozen hy 4
            have c5 := blk_cell hy 5
            have f5 := blk_frozen hy 5
            have c6 := blk_cell hy 6
            have f6 := blk_frozen hy 6
            have c7 := blk_cell hy 7
            have f7 := blk_frozen hy 7
            simp only [List.getElem?_toArray, List.getElem?_cons_zero, List.getElem?_cons_succ] at c0 c1 c2 c3 c4 c5 c6 c7
            go_simp
            refine hK _ (put8 W4 g rb) (fun hb => put8_below rb hb HG.out) ?_
            clear hK K
            have HY5 := Aside0.mk (put8_blk rb hy)
            have HA5 := Aside0.mk (put8_below rb HA4.out HG.out)
            clear hy c0 c1 c2 c3 c4 c5 c6 c7 f0 f1 f2 f3 f4 f5 f6 f7
            generalize put8 W4 g rb = W5 at HY5 HA5 ⊢
            refine HO_end (by kernel_rfl) (fun W6 hW6 => ?_)
            have hy6 := blk_below HY5.out hW6
            have hA6 := bstep HA5.out hW6
            clear hW6
            go_wp2_with fail
            exact ⟨g, rfl, rfl, hA6, hy6, HG.out⟩
          · rintro e a' W' ⟨g, rfl, rfl, hA, hb, hg⟩
            have HI2 := Aside0.mk (HI.out.below hA)
            have HA := Aside0.mk hA
            have HBB := Aside0.mk hb
            have HG := Aside0.mk hg
            clear hA hb hg
            cases kk
            · have c1 := blk_cell HI2.out.r1 0
              have f1 := blk_frozen HI2.out.r1 0
              have c2 := blk_cell HI2.out.r2 0
              have f2 := blk_frozen HI2.out.r2 0
              simp only [List.getElem?_toArray, List.getElem?_cons_zero] at c1 c2
              gi_wp2
              exact ⟨keeps_set (p := ⟨w.heap.size + 2, 0, none⟩) (keeps_set (p := ⟨w.heap.size + 1, 0, none⟩) (keeps_below HA.out _) (by rw [lnW0_size]; show w.heap.size + 1 < _; omega) _) (by rw [lnW0_size]; show w.heap.size + 2 < _; omega) _, HI2.out.stop x.2 HKK.out⟩
            · obtain ⟨v, h3, h4⟩ := HI2.out.out
              have c9 := blk_cell h3 0
              have f9 := blk_frozen h3 0
              have hx := HBB.out
              have c0 := blk_cell hx 0
              have f0 := blk_frozen hx 0
              have c1 := blk_cell hx 1
              have f1 := blk_frozen hx 1
              have c2 := blk_cell hx 2
              have f2 := blk_frozen hx 2
              have c3 := blk_cell hx 3
              have f3 := blk_frozen hx 3
              have c4 := blk_cell hx 4
              have f4 := blk_frozen hx 4
              have c5 := blk_cell hx 5
              have f5 := blk_frozen hx 5
              have c6 := blk_cell hx 6
              have f6 := blk_frozen hx 6
              have c7 := blk_cell hx 7
              have f7 := blk_frozen hx 7
              simp only [List.getElem?_toArray, List.getElem?_cons_zero, List.getElem?_cons_succ] at c0 c1 c2 c3 c4 c5 c6 c7
              simp only [List.getElem?_toArray, List.getElem?_cons_zero] at c9
              have HR3 := Aside0.mk h4
              have HH3 := Aside0.mk h3
              have hpl : pre.length ≤ 1000000 := by have h7 := HSP.out; rw [List.length_append] at h7; omega
              clear h3 h4 hx
              gi_wp2_with (gi_at_builtin; refine bk_appIn (w0 := w) (B := w.heap.size) (G := w.heap.size + 5) rfl (.tmp 37) (.tmp 39) rfl v (pre.map (fun t => bkV t.1)) rb rfl rfl HR3.out HI2.out.hb HI2.out.hb.size HI2.out.sz (by rw [List.length_map]; omega) ?_; intro v1 w9 hR1 hB1 hk1 hk2; obtain ⟨g9, d9, e9, _, _⟩ := Kd.R_form hR1 (by simp); subst e9; have hg3 := (hk1 (w.heap.size + 3) (by omega)).trans HH3.out; have c9 := blk_cell hg3 0; have f9 := blk_frozen hg3 0; simp only [List.getElem?_toArray, List.getElem?_cons_zero] at c9; clear hg3; have HR9 := Aside0.mk hR1; have HB9 := Aside0.mk hB1; have HK1 := Aside0.mk hk1; have HK2 := Aside0.mk hk2; clear hR1 hB1 hk1 hk2)
              exact ⟨keeps_set (p := ⟨w.heap.size + 3, 0, none⟩) ((keeps_below HA.out _).trans (by rw [lnW0_size]; exact HK2.out)) (by rw [lnW0_size]; show w.heap.size + 3 < _; omega) _,
                ((Below.heap_setCell _ _ _ _ (by show w.heap.size + 4 ≠ w.heap.size + 3; omega)).trans (HK1.out _ (by omega))).trans (HA.out.block _ (by have := HI.out.sz; omega)), HI2.out.next (rb := rb) HK1.out (by have h9 := HR9.out; rw [show (pre.map (fun t => bkV t.1) ++ [rb]).length = pre.length + 1 by simp] at h9; exact h9) HB9.out HKK.out (HVV.out (by trivial)) HK2.out.size⟩
        case done2 =>
          intro D xs W hD hS hI hK
          rw [lnW0_size] at hD
          obtain ⟨v, h1, h2⟩ := hI.out
          obtain ⟨A9, c9, rfl, hc9, _⟩ := Kd.R_reads h2
          have c3 := blk_cell h1 0
          have f3 := blk_frozen h1 0
          have c1 := blk_cell hI.r1 0
          have f1 := blk_frozen hI.r1 0
          have c2 := blk_cell hI.r2 0
          have f2 := blk_frozen hI.r2 0
          simp only [List.getElem?_toArray, List.getElem?_cons_zero] at c1 c2 c3
          have HN := Aside0.mk (HGO.out (fun t ht => by
            rw [← hS] at ht
            obtain ⟨y, hy, rfl⟩ := List.mem_map.1 ht
            exact hI.ok y hy))
          have HM := Aside0.mk (show xs.map (fun t => bkV t.1) = ws.map bkV by rw [← congrArg (List.map bkV) hS, List.map_map]; rfl)
          gi_wp2
          have HR2 := Aside0.mk (Kd.R_far (Kd.R_far h2 (p := ⟨w.heap.size + 1, 0, none⟩) (fun k hk => by show k ≠ w.heap.size + 1; omega) (.slice A9 xs.length c9)) (p := ⟨w.heap.size + 2, 0, none⟩) (fun k hk => by show k ≠ w.heap.size + 2; omega) (.bool true))
          have b1 := blk_far (blk_set hI.r1 0 (.slice A9 xs.length c9)) (p := ⟨w.heap.size + 2, 0, none⟩) (by show w.heap.size + 1 ≠ w.heap.size + 2; omega) (.bool true)
          have b2 := blk_set (blk_far hI.r2 (p := ⟨w.heap.size + 1, 0, none⟩) (by show w.heap.size + 2 ≠ w.heap.size + 1; omega) (.slice A9 xs.length c9)) 0 (.bool true)
          have kD := (Below.heap_setCell (W.setCell ⟨w.heap.size + 1, 0, none⟩ (.slice A9 xs.length c9)) ⟨w.heap.size + 2, 0, none⟩ (.bool true) D (by show D ≠ w.heap.size + 2; omega)).trans ((Below.heap_setCell W ⟨w.heap.size + 1, 0, none⟩ (.slice A9 xs.length c9) D (by show D ≠ w.heap.size + 1; omega)).trans hK)
          have HB2 := Aside0.mk (Below.setCell (Below.setCell hI.hb (p := ⟨w.heap.size + 1, 0, none⟩) (by show w.heap.size ≤ w.heap.size + 1; omega) (.slice A9 xs.length c9)) (p := ⟨w.heap.size + 2, 0, none⟩) (by show w.heap.size ≤ w.heap.size + 2; omega) (.bool true))
          simp only [List.setIfInBounds_toArray, List.set_cons_zero] at b1 b2
          change bodyPostM _ _ _ _ _ _ _ ((W.setCell ⟨w.heap.size + 1, 0, none⟩ (.slice A9 xs.length c9)).setCell ⟨w.heap.size + 2, 0, none⟩ (.bool true))
          generalize (W.setCell ⟨w.heap.size + 1, 0, none⟩ (.slice A9 xs.length c9)).setCell ⟨w.heap.size + 2, 0, none⟩ (.bool true) = W2 at HR2 b1 b2 kD HB2 ⊢
          have q1 : (W2.putObj D (.deferred none)).cell? ⟨w.heap.size + 1, 0, none⟩ = some (.slice A9 xs.length c9) := blk_cell ((World.putObj_heap_other (by omega)).trans b1) 0
          have q2 : (W2.putObj D (.deferred none)).cell? ⟨w.heap.size + 1 + 1, 0, none⟩ = some (.bool true) := blk_cell ((World.putObj_heap_other (by omega)).trans b2) 0
          refine ⟨by simp, .inl ⟨_, _, rfl, run_takeDeferred kD, ?_⟩⟩
          refine ⟨.tuple #[.slice A9 xs.length c9, .bool true], by simp [results, Tryz.results39, go_sem, q1, q2], _, rfl, below_put _ HB2.out (by omega), ?_⟩
          rw [HN.out.1, HN.out.2, ← HM.out]
          have h9 := Kd.R_mono (R_put (.deferred none) HR2.out kD rfl) (fun _ _ => trivial)
          rw [List.length_map] at h9
          exact ⟨_, rfl, h9⟩
        case stop2 =>
          intro D W hD hO hK
          rw [lnW0_size] at hD
          have c1 := blk_cell hO.r1 0
          have c2 := blk_cell hO.r2 0
          simp only [List.getElem?_toArray, List.getElem?_cons_zero] at c1 c2
          have HN := Aside0.mk (HBO.out hO.bad)
          gi_wp2
          have q1 : (W.putObj D (.deferred none)).cell? ⟨w.heap.size + 1, 0, none⟩ = some (.slice none 0 0) := blk_cell ((World.putObj_heap_other (by omega)).trans hO.r1) 0
          have q2 : (W.putObj D (.deferred none)).cell? ⟨w.heap.size + 1 + 1, 0, none⟩ = some (.bool false) := blk_cell ((World.putObj_heap_other (by omega)).trans hO.r2) 0
          refine ⟨by simp, .inl ⟨_, _, rfl, run_takeDeferred hK, ?_⟩⟩
          exact ⟨.tuple #[.slice none 0 0, .bool false], by simp [results, Tryz.results39, go_sem, q1, q2], _, rfl, below_put _ hO.hb (by omega), tupBB_no HN.out⟩
  · have HN := Aside0.mk (HBD.out (.inl ha))
    have hne : (bS l).toList.isEmpty = false := by rw [bS_list, hla]; simp [ha]
    have hne2 : ¬ (bS l).toList = [] := by rw [bS_list, hla]; simp [ha]
    rw [show Go.Lib.hasSuffix l [10] = false by rw [hla]; exact sfx_no ha10 ha] at HSX
    clear hla hct ha HBD HGD
    refine (callsIn_wide (n := 3)).1 ?_
    refine callsIn_of_wp_marks Tryz.func39 rfl trivial ?_ rfl
    simp only [Tryz.ntmps39, List.size_toArray, List.length_cons, List.length_nil, Nat.reduceAdd, Nat.reduceSub, Array.replicate_succ, Array.replicate_zero, List.push_toArray, List.append_toArray, List.nil_append, List.cons_append]
    gi_wp2_with (refine ⟨trivial, ?_⟩; gi_at_call 66; refine (callsIn_wide.2 (HSX.out _)).mono ?_; rintro _ w2 ⟨rfl, rfl⟩)
    refine ⟨trivial, ?_⟩
    gi_wp2
    refine ⟨.tuple #[.slice none 0 0, .bool false], by simp [results, Tryz.results39, go_sem], _, rfl, balloc (balloc (balloc (Below.refl _ _) _) _) _, tupBB_no HN.out⟩
theorem ls_cases (l : Bs) : (lsE l = 0) ∨ (lsV l = [] ∧ lsE l = 5) := by
  by_cases h : ∃ L, RdLs l L
  · obtain ⟨L, hL⟩ := h
    exact .inl (ls_of (.inl ⟨rfl, hL⟩)).2
  · exact .inr (ls_of (.inr ⟨rfl, rfl, fun L hL => h ⟨L, hL⟩⟩))
set_option maxHeartbeats 1000000 in
theorem ReadBooks_c (l : Bs) (hl : l.length ≤ 1048576) (w : World) (ht : Txt w) : Calls Tryz.prog 9 #[.string (bS l)] w (RetQ w (TupB w (lsV l) (lsE l))) := by
  have HR := Aside0.mk (readLines_c l hl w ht)
  clear ht
  rcases ls_cases l with h | ⟨hv0, h⟩
  · rw [h, show ((0 : Int) == 0) = true from rfl] at HR
    rw [h]
    clear h
    generalize lsV l = L at HR ⊢
    go_enter Tryz.func9, Tryz.ntmps9
    go_wp2_with fail
    refine HR.out.mono ?_; rintro _ w1 ⟨_, rfl, hb1, v1, rfl, hv⟩
    have HV := Aside0.mk hv
    have HB := Aside0.mk hb1
    obtain ⟨A1, c1, rfl, _, _⟩ := Kd.R_reads hv
    clear hv hb1
    go_wp2
    go_ret2
    exact ⟨_, rfl, HB.out, _, rfl, HV.out⟩
  · rw [h, show ((5 : Int) == 0) = false from rfl] at HR
    rw [h, hv0]
    clear h hv0
    generalize lsV l = L at HR
    go_enter Tryz.func9, Tryz.ntmps9
    go_wp2_with fail
    refine HR.out.mono ?_; rintro _ w1 ⟨_, rfl, hb1, v1, rfl, hv⟩
    have HB := Aside0.mk hb1
    obtain ⟨A1, c1, rfl, _, _⟩ := Kd.R_reads hv
    clear hv hb1
    go_wp2
    go_ret2
    exact ⟨_, rfl, HB.out, _, rfl, Kd.R_nil _ _ _ _ _⟩
end Go.Proofs.YtkoaangakmpggaaGreatDoor
end
section
/- The text of a list of books: the program's. -/
namespace Go.Proofs.YtkoaangakmpggaaGreatDoor
open Go.RowKit Go.Proofs.YtkoaangakmpggaaGreatDoorW.PrintWords Go.Proofs.YtkoaangakmpggaaGreatDoorW.PrintMore
set_option linter.unusedVariables false
set_option linter.unusedSimpArgs false
set_option maxRecDepth 100000

theorem bdF_below {T e : TypeId} {B b : Nat} {p : Value} {bs : List Value} {w w1 : World} (h : Go.Lib.BuilderAtF T e B b p bs w) (hb : Below w.heap.size w w1) : Go.Lib.BuilderAtF T e B b p bs w1 := by
  obtain ⟨h0, v, h1, ⟨h2, h3⟩, h4⟩ := h
  refine ⟨h0, v, blk_below h1 hb, ⟨h2, ?_⟩, h4⟩
  rcases h3 with h3 | ⟨g, cap, cur, fz, a1, a2, a3, a4⟩
  · exact .inl h3
  · exact .inr ⟨g, cap, cur, fz, a1, a2, blk_below a3 hb, a4⟩
theorem isF_below {T e : TypeId} {B b : Nat} {bs : List Value} {w w1 : World} (h : Go.Lib.IsBuilderF T e B b bs w) (hb : Below w.heap.size w w1) : Go.Lib.IsBuilderF T e B b bs w1 :=
  h.elim (fun h => .inl (bdF_below h hb)) (fun h => .inr (bdF_below h hb))
theorem writeS_c (B b : Nat) (l : Bs) (s : ByteArray) (w : World) (h : Go.Lib.IsBuilderF 103 5 B b (Go.Lib.byteCells l) w) (hlen : l.length + s.size ≤ 100000) (hBw : B ≤ w.heap.size) :
    Calls Tryz.prog 73 #[.pointer (some ⟨b, 0, none⟩), .string s] w fun e w' => e = .returned (.tuple #[.int .i64 s.size, .nilIface]) ∧ Go.Lib.IsBuilderF 103 5 B b (Go.Lib.byteCells (l ++ s.data.toList)) w' ∧ Below B w w' :=
  (Any.Builder_WriteString_k (ρ := Tryz.lays156_ren) { Tryz.lays156 with } Tryz.Builder_Extra_156 B b (Go.Lib.byteCells l) s w h (by rw [Go.Lib.byteCells_length]; omega) hBw).mono fun e w' ⟨h1, h2, h3, _⟩ =>
    ⟨h1, .inr (by rw [Go.Lib.byteCells_append, ← Go.Lib.strCells_eq]; exact h2), h3⟩
theorem lnT_take {L : List Bk} {k : Nat} {b : Bk} (hx : L[k]? = some b) : lnT ((L.take (k + 1)).map bkT) = lnT ((L.take k).map bkT) ++ (bkT b ++ [10]) := by
  rw [take_snoc hx, List.map_append]
  exact lnT_snoc _ _
set_option maxHeartbeats 4000000 in
theorem linesText_c (A : Option Addr) (c : Nat) (L : List Bk) (hn : L.length ≤ 60) (hv : ∀ b, b ∈ L → vBook b = true) (w : World) (hL : kBk.C w A L.length L) (ht : Tab w) :
    Calls Tryz.prog 41 #[.slice A L.length c, .func (.func 42) #[] #[]] w (Ret w (.string (bS (lsT L)))) := by
  have hm := Kd.C_max hL
  have HL := Aside0.mk hL
  have HV := Aside0.mk hv
  have HT := Aside0.mk ht
  have hfn : Fun Tryz.prog 42 := ⟨_, Tryz.func42, rfl, rfl⟩
  have hcf := hfn.run
  have hB0 := Go.Lib.IsBuilderF.of (Go.Lib.fresh_isBuilder 103 5 w)
  have hb0 : Below w.heap.size w (w.alloc (.cells #[.pointer none, .slice none 0 0] 103)) := balloc (Below.refl _ _) _
  have HI0 := Aside0.mk hB0
  have HB0 := Aside0.mk hb0
  clear hL hv ht hfn hB0 hb0
  go_enter Tryz.func41, Tryz.ntmps41
  go_wp2_with fail
  go_loopg [10] L.length (fun gk v10 wr => ∃ k : Nat, k + gk = L.length ∧ v10 = .int .i64 k ∧ Aside0 (Go.Lib.IsBuilderF 103 5 w.heap.size w.heap.size (Go.Lib.byteCells (lnT ((L.take k).map bkT))) wr) ∧ Aside0 (Below w.heap.size w wr))
  case atStart => exact ⟨0, by omega, rfl, HI0, HB0⟩
  case round =>
    clear HI0 HB0
    obtain ⟨k, hk, rfl, HI, hb⟩ := hrel
    have HK := Aside0.mk hk
    by_cases hlt : k < L.length
    · obtain ⟨ad, b, rfl, hbk, ha⟩ := at_bk' (Kd.C_below HL.out hb.out) k (by omega)
      have hvb := HV.out b (mem_of hbk.out)
      have HC := Aside0.mk (fun W h => bookText_c b (vB1 hvb) W h)
      have hlen := bkT_len (vB1 hvb)
      have HNX := Aside0.mk (lnT_take hbk.out)
      have hpre : (lnT ((L.take k).map bkT)).length ≤ 1860 := lsT_len (L := L.take k) (by rw [List.length_take]; omega) (fun x hx => HV.out x (List.mem_of_mem_take hx))
      have HPRE := Aside0.mk hpre
      have HLEN := Aside0.mk hlen
      have s1 : ¬ (9223372036854775807 < (bS (bkT b)).size + 1) := by rw [bS_size]; omega
      have i0 : (0 : Int) ≤ (k : Int) := by omega
      have i1 : (k : Int) < (L.length : Int) := by omega
      have HW2 := Aside0.mk (show Below wr.heap.size wr (wr.alloc (.cells #[.int .i16 b.c, .int .u8 b.m0, .int .u8 b.m1, .int .u8 b.m2, .int .i16 b.v, .int .i16 b.wd, .int .i16 b.h, .int .i16 b.wt] 44)) from balloc (Below.refl _ _) _)
      simp only [Bk.val] at HC
      obtain ⟨c0, c1, c2, c3, c4, c5, c6, c7⟩ := ha
      clear hk hvb hlen hpre
      go_wp2_with fail
      clear c0 c1 c2 c3 c4 c5 c6 c7
      refine (HC.out _ (HT.out.below (bstep hb.out HW2.out))).mono ?_; rintro _ w3 ⟨rfl, hb3⟩
      have HB3 := Aside0.mk (bstep hb.out (bstep HW2.out hb3))
      have HI3 := Aside0.mk (isF_below HI.out (bstep HW2.out hb3))
      clear hb3 HW2
      have hsz : (lnT ((L.take k).map bkT)).length + (bS (bkT b) ++ ({ data := #[10] } : ByteArray)).size ≤ 100000 := by
        rw [ByteArray.size_append, bS_size, show (ByteArray.size { data := #[10] }) = 1 from rfl]
        have := HPRE.out
        have := HLEN.out
        omega
      have HWR := Aside0.mk (writeS_c w.heap.size w.heap.size (lnT ((L.take k).map bkT)) (bS (bkT b) ++ { data := #[10] }) w3 HI3.out hsz HB3.out.size)
      clear hsz
      go_wp2_with fail
      refine HWR.out.mono ?_; rintro _ w4 ⟨rfl, hI4, hb4⟩
      have HB4 := Aside0.mk (HB3.out.trans hb4)
      have HI4 := Aside0.mk (show Go.Lib.IsBuilderF 103 5 w.heap.size w.heap.size (Go.Lib.byteCells (lnT ((L.take (k + 1)).map bkT))) w4 by
        rw [HNX.out]
        have e : (bS (bkT b) ++ { data := #[10] } : ByteArray).data.toList = bkT b ++ [10] := by rw [show ({ data := #[10] } : ByteArray) = bS [10] from rfl, bS_append, bS_toList]
        rw [e] at hI4
        exact hI4)
      clear hb4 hI4
      go_wp2
      go_roundg (gk - 1)
      case measure => have := HK.out; omega
      case rel => exact ⟨k + 1, by have := HK.out; omega, by go_num, HI4, HB4⟩
    · have HS := Aside0.mk (show L.take k = L from List.take_of_length_le (by omega))
      rw [HS.out] at HI
      clear hk
      go_wp2_with fail
      refine (Tryz.Builder_String_any_k w.heap.size w.heap.size (lsT L) wr HI.out hb.out.size).mono ?_; rintro _ w5 ⟨rfl, _, hb5, _⟩
      go_wp2
      go_ret
      exact ⟨rfl, hb.out.trans hb5⟩
end Go.Proofs.YtkoaangakmpggaaGreatDoor
end
section
/- The text of a list of books: the reference's; BooksText of both. -/
namespace Go.Proofs.YtkoaangakmpggaaGreatDoor
open Go.RowKit Go.Proofs.YtkoaangakmpggaaGreatDoorW.PrintWords Go.Proofs.YtkoaangakmpggaaGreatDoorW.PrintMore
set_option linter.unusedVariables false
set_option linter.unusedSimpArgs false
set_option maxRecDepth 100000

def tBs (L : List Bk) : ByteArray := if vBooks L = true then bS (lsT L) else ⟨#[]⟩
theorem vBooks_all {L : List Bk} (h : vBooks L = true) : L.length ≤ 60 ∧ ∀ b, b ∈ L → vBook b = true := by
  unfold vBooks at h
  simp only [Bool.and_eq_true, decide_eq_true_eq, List.all_eq_true] at h
  exact h
set_option maxHeartbeats 2000000 in
theorem BooksText_c (A : Option Addr) (c : Nat) (L : List Bk) (w : World) (hL : kBk.C w A L.length L) (ht : Tab w) : Calls Tryz.prog 10 #[.slice A L.length c] w (Ret w (.string (tBs L))) := by
  have HI := Aside0.mk (ValidBooks_c A c L w hL)
  have HE := Aside0.mk hL
  have HT := Aside0.mk ht
  clear ht hL
  cases hv : vBooks L
  · have HV := Aside0.mk (show tBs L = ⟨#[]⟩ by unfold tBs; rw [hv]; rfl)
    rw [hv] at HI
    clear hv
    go_enter Tryz.func10, Tryz.ntmps10
    go_wp2_with (go_at_call 16; refine HI.out.mono ?_; rintro _ w2 ⟨rfl, hb2⟩)
    go_ret
    exact ⟨ret_str HV.out.symm, hb2⟩
  · have HV := Aside0.mk (show tBs L = bS (lsT L) by unfold tBs; rw [hv]; rfl)
    have HC := Aside0.mk (fun W h1 h2 => linesText_c A c L (vBooks_all hv).1 (vBooks_all hv).2 W h1 h2)
    rw [hv] at HI
    clear hv
    go_enter Tryz.func10, Tryz.ntmps10
    go_wp2_with fail
    refine HI.out.mono ?_; rintro _ w1 ⟨rfl, hb1⟩
    have HB1 := Aside0.mk hb1
    clear hb1
    go_wp2_with fail
    refine (HC.out _ (Kd.C_below HE.out HB1.out) (HT.out.below HB1.out)).mono ?_; rintro _ w2 ⟨rfl, hb2⟩
    go_wp2
    go_ret
    exact ⟨ret_str HV.out.symm, bstep HB1.out hb2⟩
end Go.Proofs.YtkoaangakmpggaaGreatDoor
end
section
/- The law FnBooks: what it asks, in plain Lean. -/
namespace Go.Proofs.YtkoaangakmpggaaGreatDoor
open Go.RowKit Go.Proofs.YtkoaangakmpggaaGreatDoorW.PrintWords Go.Proofs.YtkoaangakmpggaaGreatDoorW.PrintMore
set_option linter.unusedVariables false
set_option linter.unusedSimpArgs false
set_option maxRecDepth 100000

/-- A list and its sorted form. -/
structure BkF (O : List Int) (L S : List Bk) : Prop where
  v : sortV O L = S
  e : sortE O L = 0
  v2 : sortV O S = S
  e2 : sortE O S = 0
  len : S.length = L.length
  val : vBooks S = true
  cnt : ∀ b, cntB S b = cntB L b
  adj : ∀ {i j : Nat} {x y : Bk}, i < j → S[i]? = some x → S[j]? = some y → cmpBy O x y ≤ 0
  cb : ∀ {i j : Nat} {x y : Bk}, S[i]? = some x → S[j]? = some y → cbV O x y = cmpBy O x y ∧ cbE O x y = 0
theorem BkF.of (O : List Int) {L : List Bk} (hv : ∀ b, b ∈ L → vBook b = true) (hok : OkL L) (hl : L.length ≤ 11) (ho : vOrd O = true) : BkF O L (Srt.sortL (ltBy O) L) := by
  have h1 : vBooks L = true := vBooks_of hv (by omega)
  have h2 : vBooks (Srt.sortL (ltBy O) L) = true := sort_valid hv (by omega)
  have g1 := sort_good (O := O) (L := L) (by unfold okSort; rw [ho, h1]; rfl)
  have g2 := sort_good (O := O) (L := Srt.sortL (ltBy O) L) (by unfold okSort; rw [ho, h2]; rfl)
  rw [sort_idem] at g2
  refine ⟨g1.1, g1.2, g2.1, g2.2, sort_len L, h2, cntB_sort L, fun hij hx hy => up_adj (sort_up L) hij hx hy, fun {i j x y} hx hy => ?_⟩
  have v1 := hv x (sort_mem.1 (List.mem_of_getElem? hx))
  have v2 := hv y (sort_mem.1 (List.mem_of_getElem? hy))
  have ok : okBy O x y = true := by unfold okBy; rw [ho, v1, v2]; rfl
  unfold cbV cbE
  rw [ok]
  exact ⟨rfl, rfl⟩
theorem usual_vOrd : vOrd usualL = true := by decide
theorem usual_C (W : World) : (Kd.int .i8).C (W.alloc (.cells #[.int .i8 1, .int .i8 2, .int .i8 3] 34)) (some ⟨W.heap.size, 0, none⟩) usualL.length usualL := by
  have hx := blk_new W (.cells #[.int .i8 1, .int .i8 2, .int .i8 3] 34)
  exact three_C _ _ 0 1 2 3 (blk_cell hx 0) (blk_cell hx 1) (blk_cell hx 2)
theorem tBs_ok {L : List Bk} (h : vBooks L = true) : tBs L = bS (lsT L) := by unfold tBs; rw [if_pos h]
theorem lsT_back {L : List Bk} (hn : L.length ≤ 60) (h : ∀ b, b ∈ L → vBook b = true) : lsV (lsT L) = L ∧ lsE (lsT L) = 0 := ls_of (.inl ⟨rfl, rdLs_self hn h⟩)
theorem pv_ok {L : List Bk} (h : vBooks L = true) : pairsV L = pairsL L ∧ eV L = 0 := by unfold pairsV eV; rw [h]; exact ⟨rfl, rfl⟩
theorem rv_ok {L : List Bk} (h : vBooks L = true) : runsV L = runsL L ∧ eV L = 0 := by unfold runsV eV; rw [h]; exact ⟨rfl, rfl⟩
theorem cmpBy_three (O : List Int) (a b : Bk) : cmpBy O a b = -1 ∨ cmpBy O a b = 0 ∨ cmpBy O a b = 1 := by
  induction O with
  | nil => exact .inr (.inl rfl)
  | cons f r ih =>
    have h1 := cmp3_three (num0 (absF f) a) (num1 (absF f) a) (num2 (absF f) a) (num0 (absF f) b) (num1 (absF f) b) (num2 (absF f) b)
    have h2 : sgnCmp f a b = -1 ∨ sgnCmp f a b = 0 ∨ sgnCmp f a b = 1 := by
      unfold sgnCmp fldCmp
      split <;> omega
    have e : cmpBy (f :: r) a b = if sgnCmp f a b = 0 then cmpBy r a b else sgnCmp f a b := rfl
    rw [e]
    split
    · exact ih
    · exact h2
theorem cmpU_three (a b : Bk) : cmpU a b = -1 ∨ cmpU a b = 0 ∨ cmpU a b = 1 := cmpBy_three usualL a b
theorem wrap_pred' (n : Nat) (h : n ≤ 1000000) : IntKind.i64.wrap ((n : Int) - 1) = (n : Int) - 1 := by rw [IntKind.wrap_i64]; omega
/-- The three kinds of lists, by what their runs tell. -/
theorem isS_cases {L : List Bk} (hv : vBooks L = true) :
    (L.length = 0 ∧ pairsL L ≤ 0 ∧ firstV L = 0 ∧ firstE L = 6 ∧ (runsL L).length = 0 ∧ longF L = 0 ∧ longM L = 0 ∧ longE L = 6) ∨
    ((0 < L.length ∧ outOf L < 0) ∧ pairsL L ≤ 0 ∧ firstV L = 0 ∧ firstE L = 6 ∧ (runsL L).length < 2 ∧ longF L = (longest L).1 ∧ longM L = (longest L).2 ∧ longE L = 0 ∧ ((longest L).1 ∈ runsL L ∧ 1 ≤ (longest L).2 ∧ (longest L).1 + (longest L).2 ≤ (L.length : Int))) ∨
    ((0 < L.length ∧ ¬ outOf L < 0) ∧ 0 < pairsL L ∧ firstV L = outOf L ∧ firstE L = 0 ∧ 1 < (runsL L).length ∧ longF L = (longest L).1 ∧ longM L = (longest L).2 ∧ longE L = 0 ∧ ((longest L).1 ∈ runsL L ∧ 1 ≤ (longest L).2 ∧ (longest L).1 + (longest L).2 ≤ (L.length : Int))) := by
  unfold firstV firstE longF longM longE
  rcases Nat.eq_zero_or_pos L.length with h0 | h0
  · have ho : outOf L < 0 := by unfold outOf; rw [h0]; show (-1 : Int) < 0; decide
    have hp := pairs_zero (isS_out.2 ho)
    left
    rw [if_pos hv, if_pos hv, if_pos ho, if_pos ho, if_neg (by simp [h0]), if_neg (by simp [h0]), if_pos hv, if_pos h0, runsL_nil h0]
    exact ⟨h0, by omega, rfl, rfl, rfl, rfl, rfl, rfl⟩
  · have hl := longest_in h0
    by_cases ho : outOf L < 0
    · have hp := pairs_zero (isS_out.2 ho)
      right; left
      rw [if_pos hv, if_pos hv, if_pos ho, if_pos ho, if_pos ⟨hv, by omega⟩, if_pos ⟨hv, by omega⟩, if_pos hv, if_neg (by omega)]
      exact ⟨⟨h0, ho⟩, by omega, rfl, rfl, runs_few.2 ho, rfl, rfl, rfl, hl⟩
    · have hp := pairs_pos (L := L) (by cases e : isS L; rfl; exact absurd (isS_out.1 e) ho)
      right; right
      rw [if_pos hv, if_pos hv, if_neg ho, if_neg ho, if_pos ⟨hv, by omega⟩, if_pos ⟨hv, by omega⟩, if_pos hv, if_neg (by omega)]
      refine ⟨⟨h0, ho⟩, hp, rfl, rfl, ?_, rfl, rfl, rfl, hl⟩
      have : ¬ (runsL L).length < 2 := fun h => ho (runs_few.1 h)
      omega
end Go.Proofs.YtkoaangakmpggaaGreatDoor
end
