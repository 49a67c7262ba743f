/- slices.Insert of one row at the head of a table; slices.Repeat of one number. -/
import Derived.Test.YtdippdkneeocfaaTabL
import Derived.StillTailTactics
import Derived.Still
import Derived.Deep.QuietTactic
import Derived.BigQuiet
import Derived.Deep.RegionLaw
import Derived.Laws.CopyOwn
import Derived.Lib.Overlaps
import Derived.Lib.AppendZerosOnto
import Derived.Shelf.Spec.SlicesInsert
import Derived.Laws.Externs
namespace Go.Proofs.Ytdippdkneeocfaa
open Go.RowKit Go.Proofs.YtdippdkneeocfaaW.PrintWords Go.Proofs.YtdippdkneeocfaaW.PrintMore
set_option linter.unusedVariables false
set_option linter.unusedSimpArgs false
set_option maxRecDepth 100000

open Go.Lib
/-- A row's head: its address, its length, its capacity. -/
structure SlH where
  A : Option Addr
  n : Nat
  c : Nat
def SlH.val (x : SlH) : Value := .slice x.A x.n x.c
def kSH : Kd SlH := Kd.scalar SlH.val (fun _ => rfl)
theorem kSH_E : kSH.E = [] := rfl
theorem grown_trans {w w1 w2 : World} {r : Option Nat} (h : w.grownBy w1 r) (k : w1.grownBy w2 r) : w.grownBy w2 r :=
  ⟨k.os.trans h.os, k.tape.trans h.tape, k.output.trans h.output, Nat.le_trans h.size k.size, fun j hj hr => (k.block j (Nat.lt_of_lt_of_le hj h.size) hr).trans (h.block j hj hr)⟩
theorem grown_below {w w1 : World} (h : Below w.heap.size w w1) (r : Option Nat) : w.grownBy w1 r := ⟨h.os, h.tape, h.output, h.size, fun k hk _ => h.block k hk⟩
theorem copy_g_run {P : Program} (w : World) (dT sT ty elem : TypeId) (g o dLen dCap : Nat) (a : Addr) (sLen sCap : Nat) (cur : List Value) (t : TypeId) (cs : List Value)
    (hu : P.underlying dT = some (.slice elem)) (hs : (P.info? elem).map (·.size) = some 1)
    (hg : w.heap[g]? = some (.cells cur.toArray t (0, 0))) (hn : cs.length = Nat.min sLen dLen)
    (hsrc : ∀ j v, cs[j]? = some v → w.cell? (a.add j) = some v) (hfit : o + cs.length ≤ cur.length) (h1 : ∀ v ∈ cs, v.oneCell' = true) :
    ∃ w', (Builtin.copy_ #[dT, sT] ty #[.slice (some ⟨g, o, none⟩) dLen dCap, .slice (some a) sLen sCap]).run P w = .ok (goInt cs.length) w' ∧ w'.heap[g]? = some (.cells (splice cur o cs).toArray t (0, 0)) ∧ w.grownBy w' (some g) := by
  have hr := run_copy_row (P := P) w dT sT ty elem g o dLen dCap a sLen sCap cur.toArray t cs hu hs hg hn hsrc (by simpa using hfit) h1
  refine ⟨_, hr, ?_, rfl, rfl, rfl, by simp, fun k _ hk => setRow_other w g k _ (fun he => hk (by rw [he]))⟩
  have := setRow_heap w g cur.toArray (cur.toArray.toList.take o ++ cs ++ cur.toArray.toList.drop (o + cs.length)).toArray t (0, 0) hg
  rw [this]
  simp [splice]
theorem step_copy_g {P : Program} {ops : Array Oper} {o : Oper} {a : Act} {w : World} {K : Act → World → Prop} {Q : Exit → Act → World → Prop} {E : Prop} (hgd : o.guard = none) (d s : Operand) (dT sT : TypeId)
    (ho : o.op = .call { callee := .builtin .copy, args := #[d, s], argTypes := #[dT, sT] }) (elem : TypeId) (hu : P.underlying dT = some (.slice elem)) (hsz : (P.info? elem).map (·.size) = some 1)
    (g off dLen dCap : Nat) (ad : Addr) (sLen sCap : Nat) (hd : a.eval d = .slice (some ⟨g, off, none⟩) dLen dCap) (hs : a.eval s = .slice (some ad) sLen sCap)
    (cur : List Value) (t : TypeId) (hg : w.heap[g]? = some (.cells cur.toArray t (0, 0))) (cs : List Value) (hn : cs.length = Nat.min sLen dLen)
    (hsrc : ∀ j v, cs[j]? = some v → w.cell? (ad.add j) = some v)
    (hfit : off + cs.length ≤ cur.length) (h1 : ∀ v ∈ cs, v.oneCell' = true)
    (h : ∀ w', Aside0 (w'.heap[g]? = some (.cells (splice cur off cs).toArray t (0, 0))) → Aside0 (w.grownBy w' (some g)) → K (a.put o.dst (goInt cs.length)) w') :
    if Region.wanted o (yielded ops a.tmps) = true then Oper.wp P o a w K Q else E := by
  obtain ⟨w', hr, h2, h3⟩ := copy_g_run (P := P) w dT sT o.type elem g off dLen dCap ad sLen sCap cur t cs hu hsz hg hn hsrc hfit h1
  exact step_copy_runI hgd d s dT sT ho _ _ hd hs hr (h w' ⟨h2⟩ ⟨h3⟩)
theorem wp_copy_g {P : Program} {ops : Array Oper} {rest : List Oper} {o : Oper} {a : Act} {w : World} {Q : Exit → Act → World → Prop} (hgd : o.guard = none) (d s : Operand) (dT sT : TypeId)
    (ho : o.op = .call { callee := .builtin .copy, args := #[d, s], argTypes := #[dT, sT] }) (elem : TypeId) (hu : P.underlying dT = some (.slice elem)) (hsz : (P.info? elem).map (·.size) = some 1)
    (g off dLen dCap : Nat) (ad : Addr) (sLen sCap : Nat) (hd : a.eval d = .slice (some ⟨g, off, none⟩) dLen dCap) (hs : a.eval s = .slice (some ad) sLen sCap)
    (cur : List Value) (t : TypeId) (hg : w.heap[g]? = some (.cells cur.toArray t (0, 0))) (cs : List Value) (hn : cs.length = Nat.min sLen dLen)
    (hsrc : ∀ j v, cs[j]? = some v → w.cell? (ad.add j) = some v)
    (hfit : off + cs.length ≤ cur.length) (h1 : ∀ v ∈ cs, v.oneCell' = true)
    (h : ∀ w', Aside0 (w'.heap[g]? = some (.cells (splice cur off cs).toArray t (0, 0))) → Aside0 (w.grownBy w' (some g)) → wpList P ops Q rest (a.put o.dst (goInt cs.length)) w') :
    wpList P ops Q (o :: rest) a w := by
  obtain ⟨w', hr, h2, h3⟩ := copy_g_run (P := P) w dT sT o.type elem g off dLen dCap ad sLen sCap cur t cs hu hsz hg hn hsrc hfit h1
  exact wpList_copy_runI w hgd d s dT sT ho _ _ hd hs hr (h w' ⟨h2⟩ ⟨h3⟩)
theorem row_sz : (Try.prog.info? 56).map (·.size) = some 1 := by kernel_rfl
theorem row_so (w : World) : (Go.sizeOf 56).run Try.prog w = .ok 1 w := by
  obtain ⟨i, hi, h⟩ := Option.map_eq_some_iff.1 row_sz
  simp [sizeOf, typeInfo, hi, h]
theorem cell_row {w : World} {g : Nat} {cur : List Value} {t : TypeId} (h : w.heap[g]? = some (.cells cur.toArray t (0, 0))) (j : Nat) : w.cell? ⟨g, j, none⟩ = cur[j]? := by
  rw [cell_of_row w g j cur.toArray t (0, 0) h]; simp
theorem encs_SH (X : List SlH) : encs SlH.val X = X.map SlH.val := rfl
theorem row_made {w : World} {base g n cap : Nat} {cur : List Value} {X : List SlH} (hb : base ≤ g) (hg : w.heap[g]? = some (.cells cur.toArray 56 (0, 0))) (hn : X.length = n) (hc : n ≤ cap) (hm : cap ≤ maxLen) (hs : cur.length = cap) (ht : cur.take n = X.map SlH.val) :
    kSH.R 56 w base (fun _ => True) (.slice (some ⟨g, 0, none⟩) n cap) X := by
  refine Kd.R_of_own ?_ (fun _ _ => trivial)
  refine ⟨by rw [encs_SH, List.length_map, Nat.mul_one], .inr ⟨g, cap, cur.toArray, by rw [hn], hb, hg, by omega, hm, by simpa using hs, ?_⟩⟩
  rw [encs_SH, Nat.mul_one, hn]
  simpa using ht
theorem splice_two (R : List Value) (a : Value) (xs : List Value) {n : Nat} (hn : xs.length = n) (hR : n + 1 ≤ R.length) : (splice (splice R 0 [a]) 1 xs).take (n + 1) = a :: xs := by
  subst hn
  cases R with
  | nil => simp at hR
  | cons r R => simp [splice]
set_option maxHeartbeats 4000000 in
theorem insGrow_c (g cap : Nat) (X : List SlH) (h : SlH) (cur : List Value) (w : World) (hX : 0 < X.length) (hl : X.length ≤ 1000) (hg : w.heap[g]? = some (.cells cur.toArray 56 (0, 0))) (hcap : cap = X.length) (hcl : cur.length = cap) (ht : cur.take X.length = X.map SlH.val) :
    Calls Try.prog 182 #[.slice (some ⟨g, 0, none⟩) X.length cap, .int .i64 0, .slice (some ⟨w.heap.size, 0, none⟩) 1 1] (w.alloc (.cells #[h.val] 56)) (fun e w' => ∃ v', e = .returned v' ∧ kSH.R 56 w' w.heap.size (fun _ => True) v' (h :: X) ∧ Below w.heap.size w w') := by
  subst hcap
  obtain ⟨W, hW⟩ : ∃ W, W = w.alloc (.cells #[h.val] 56) := ⟨_, rfl⟩
  have HBW := Aside0.mk (show Below w.heap.size w W by rw [hW]; exact balloc (Below.refl _ _) _)
  have hgl : g < w.heap.size := (Array.getElem?_eq_some_iff.1 hg).1
  have HG := Aside0.mk (show W.heap[g]? = some (.cells cur.toArray 56 (0, 0)) from (HBW.out.block g hgl).trans hg)
  have HV := Aside0.mk (show W.heap[w.heap.size]? = some (.cells #[h.val] 56 (0, 0)) by rw [hW]; exact heap_alloc_new w _)
  have hWs : W.heap.size = w.heap.size + 1 := by rw [hW]; simp
  rw [← hW]
  clear hW hg
  obtain ⟨i0, hi0, hzz⟩ := Option.map_eq_some_iff.1 info_row
  simp only [Prod.mk.injEq] at hzz
  obtain ⟨hz0, hz1, hz2⟩ := hzz
  obtain ⟨G, hG⟩ : ∃ G, G = grownCap W (X.length + 1) X.length 56 := ⟨_, rfl⟩
  have hGn : X.length + 1 ≤ G := by rw [hG]; exact grownCap_ge _ _ _ _
  have HGM := Aside0.mk (show G ≤ maxLen by rw [hG]; exact grownCap_le_maxLen _ _ _ _ (by unfold maxLen; omega))
  have hG63 : G ≤ 9223372036854775807 := by have := HGM.out; unfold maxLen at this; omega
  obtain ⟨ROW, hROW⟩ : ∃ ROW : List Value, ROW.toArray = ((#[] : Array Value) ++ Builtin.zeroCells (Value.slice none 0 0).cells (X.length + 1) ++ Builtin.zeroCells (Value.slice none 0 0).cells (G - (X.length + 1))) := ⟨_, Array.toArray_toList⟩
  have hRl : ROW.length = G := by
    have := congrArg Array.size hROW
    simp [Builtin.zeroCells, Value.cells] at this
    omega
  have hrz : ∀ ty, (Builtin.append_ #[77, 3] ty #[.slice (some ⟨g, 0, none⟩) 0 X.length, .int .i64 ((X.length : Int) + 1)]).run Try.prog W =
      .ok (.slice (some ⟨W.heap.size, 0, none⟩) (X.length + 1) G) (W.drew.alloc (.cells ROW.toArray 56)) := fun ty => by
    have hold : (Builtin.firstCells i0.size 0 (.slice (some ⟨g, 0, none⟩) 0 X.length)).run Try.prog W.drew = .ok (([] : List Value).toArray) W.drew := by
      rw [hz1]
      exact run_firstCells_some W.drew 1 0 ⟨g, 0, none⟩ 0 X.length [] rfl (fun j v hj => by simp at hj)
    have h := Lib.run_append_grow_zeros W 77 3 ty 56 i0 _ .i64 .i64 Try.underlying77 Try.underlying3 hi0 hz0 (some ⟨g, 0, none⟩) 0 X.length [] hold (X.length + 1) (by omega) (by omega) (by omega) (by omega) (by rw [hz2]; omega) (by
      rw [hz2]
      exact growslice_fits (by omega) (by omega))
    simp only [Nat.zero_add] at h
    rw [hROW, hG]
    exact h
  have HWS := Aside0.mk hWs
  have HB1 := Aside0.mk (show Below w.heap.size w (W.drew.alloc (.cells ROW.toArray 56)) from balloc (bdrew HBW.out) _)
  have HG1 := Aside0.mk (show (W.drew.alloc (.cells ROW.toArray 56)).heap[g]? = some (.cells cur.toArray 56 (0, 0)) from (HB1.out.block g hgl).trans ((HBW.out.block g hgl).symm.trans HG.out))
  have HV1 := Aside0.mk (show (W.drew.alloc (.cells ROW.toArray 56)).heap[w.heap.size]? = some (.cells #[h.val] 56 (0, 0)) from (heap_alloc_old W.drew _ (show w.heap.size < W.heap.size by omega)).trans HV.out)
  have HN1 := Aside0.mk (show (W.drew.alloc (.cells ROW.toArray 56)).heap[W.heap.size]? = some (.cells ROW.toArray 56 (0, 0)) from heap_alloc_new W.drew _)
  obtain ⟨N, hN⟩ : ∃ N, W.heap.size = N := ⟨_, rfl⟩
  have HNE := Aside0.mk (show w.heap.size < N by omega)
  have hgN : g ≠ N := by omega
  obtain ⟨W1, hW1⟩ : ∃ W1, W.drew.alloc (.cells ROW.toArray 56) = W1 := ⟨_, rfl⟩
  rw [hN, hW1] at hrz HN1
  rw [hW1] at HB1 HG1 HV1
  have HRZ := Aside0.mk hrz
  clear hrz hROW hi0 hz0 hz1 hz2 hG hWs hW1 hN HG HV
  have hn1 : ([h.val] : List Value).length = Nat.min 1 (X.length + 1) := by
    show 1 = min 1 (X.length + 1)
    omega
  have hs1 : ∀ j v, ([h.val] : List Value)[j]? = some v → W1.cell? ((⟨w.heap.size, 0, none⟩ : Addr).add j) = some v := fun j v hj => by
    have hv := cell_row (cur := [h.val]) HV1.out j
    rw [hj] at hv
    rw [Addr.add_lit, Nat.zero_add]
    exact hv
  have hf1 : 0 + ([h.val] : List Value).length ≤ ROW.length := by
    show 0 + 1 ≤ _
    omega
  have ho1 : ∀ v ∈ ([h.val] : List Value), v.oneCell' = true := fun v hv => by rw [List.mem_singleton.1 hv]; rfl
  have HN_ := Aside0.mk hn1
  have HS_ := Aside0.mk hs1
  have HF_ := Aside0.mk hf1
  have HO_ := Aside0.mk ho1
  clear hn1 hs1 hf1 ho1
  go_enter Try.func182, Try.ntmps182
  go_wp2_with (first | (at_builtin; refine Lib.wpList_append_run _ rfl _ _ _ _ rfl _ _ rfl rfl _ _ (HRZ.out _) ?_) | (refine wp_copy_g rfl (.tmp 43) (.tmp 44) 77 77 rfl 56 Try.underlying77 row_sz N 0 (X.length + 1) G ⟨w.heap.size, 0, none⟩ 1 1 rfl rfl ROW 56 HN1.out [h.val] HN_.out HS_.out HF_.out HO_.out ?_; intro W2 hN2 hg2))
  have hgl1 : g < W1.heap.size := Nat.lt_of_lt_of_le hgl HB1.out.size
  have HG2 := Aside0.mk (show W2.heap[g]? = some (.cells cur.toArray 56 (0, 0)) from (hg2.out.block g hgl1 (fun he => hgN (Option.some.inj he))).trans HG1.out)
  have HN2_ := Aside0.mk (show (X.map SlH.val).length = Nat.min X.length X.length by rw [List.length_map]; exact (Nat.min_self _).symm)
  have HS2_ := Aside0.mk (show ∀ j v, (X.map SlH.val)[j]? = some v → cur[0 + j]? = some v from fun j v hj => by
    rw [← ht] at hj
    rw [List.getElem?_take] at hj
    rw [Nat.zero_add]
    split at hj
    · exact hj
    · cases hj)
  have HF2_ := Aside0.mk (show 1 + (X.map SlH.val).length ≤ (splice ROW 0 [h.val]).length by rw [length_splice _ _ _ HF_.out, List.length_map]; omega)
  have HO2_ := Aside0.mk (show ∀ v ∈ X.map SlH.val, v.oneCell' = true from fun v hv => by obtain ⟨x, _, rfl⟩ := List.mem_map.1 hv; rfl)
  have hw1 : IntKind.i64.wrap 1 = 1 := by decide
  have hG1 : ¬ (G = 1) := by omega
  have hX1 : ¬ (X.length = 0) := by omega
  have hx1 : (1 : Int) ≤ (X.length : Int) + 1 := by omega
  have hx2 : (0 : Int) ≤ (X.length : Int) := by omega
  go_region_law (refine step_copy_g rfl _ _ 77 77 rfl 56 Try.underlying77 row_sz N 1 X.length (G - 1) ⟨g, 0, none⟩ X.length X.length (by simp [Act.eval, Act.put]) (by simp [Act.eval, Act.put]) (splice ROW 0 [h.val]) 56 hN2.out (X.map SlH.val) HN2_.out (fun j v hj => by rw [Addr.add_lit]; exact (cell_row HG2.out _).trans (HS2_.out j v hj)) HF2_.out HO2_.out ?_; intro W3 hN3 hg3)
  go_wp2
  go_ret
  have hNb : ∀ k, some N = some k → w.heap.size ≤ k := fun k hk => by cases hk; exact Nat.le_of_lt HNE.out
  have hB2 : Below w.heap.size w W2 := pw_below_grown HB1.out (some N) HB1.out.size hg2.out hNb
  have hB2' : Below w.heap.size w W2.drew := bdrew hB2
  have hB3 : Below w.heap.size w W3 := pw_below_grown hB2' (some N) hB2'.size hg3.out hNb
  refine ⟨_, rfl, row_made (Nat.le_of_lt HNE.out) hN3.out (by simp) hGn HGM.out ?_ ?_, hB3⟩
  · rw [length_splice _ _ _ HF2_.out, length_splice _ _ _ HF_.out]; exact hRl
  · exact splice_two ROW h.val (X.map SlH.val) (by rw [List.length_map]) (by omega)
theorem splice_two' (R : List Value) (a : Value) (xs : List Value) {n : Nat} (hn : xs.length = n) (hR : n + 1 ≤ R.length) : (splice (splice R 1 xs) 0 [a]).take (n + 1) = a :: xs := by
  subst hn
  cases R with
  | nil => simp at hR
  | cons r R => simp [splice]
set_option maxHeartbeats 4000000 in
theorem insRoom_c (g cap : Nat) (X : List SlH) (h : SlH) (cur : List Value) (w : World) (hX : 0 < X.length) (hl : X.length ≤ 1000) (hg : w.heap[g]? = some (.cells cur.toArray 56 (0, 0))) (hcap : X.length + 1 ≤ cap) (hcm : cap ≤ maxLen) (hcl : cur.length = cap) (ht : cur.take X.length = X.map SlH.val) :
    Calls Try.prog 182 #[.slice (some ⟨g, 0, none⟩) X.length cap, .int .i64 0, .slice (some ⟨w.heap.size, 0, none⟩) 1 1] (w.alloc (.cells #[h.val] 56)) (fun e w' => ∃ v', e = .returned v' ∧ v'.ownBlock = some g ∧ (∀ base, base ≤ g → kSH.R 56 w' base (fun _ => True) v' (h :: X)) ∧ w.grownBy w' (some g)) := by
  obtain ⟨W, hW⟩ : ∃ W, W = w.alloc (.cells #[h.val] 56) := ⟨_, rfl⟩
  have HBW := Aside0.mk (show Below w.heap.size w W by rw [hW]; exact balloc (Below.refl _ _) _)
  have hgl : g < w.heap.size := (Array.getElem?_eq_some_iff.1 hg).1
  have HG := Aside0.mk (show W.heap[g]? = some (.cells cur.toArray 56 (0, 0)) from (HBW.out.block g hgl).trans hg)
  have HV := Aside0.mk (show W.heap[w.heap.size]? = some (.cells #[h.val] 56 (0, 0)) by rw [hW]; exact heap_alloc_new w _)
  have HVG := Aside0.mk (show w.heap.size ≠ g by omega)
  rw [← hW]
  clear hW hg
  have hc63 : cap ≤ 9223372036854775807 := by unfold maxLen at hcm; exact hcm
  have HCM := Aside0.mk hcm
  clear hcm
  have hsa : W.shape? w.heap.size = some (56, 1) := by simp [World.shape?, HV.out]
  have hsb : W.shape? g = some (56, cap) := by simp [World.shape?, HG.out, hcl]
  have hfa : W.frozen? ⟨w.heap.size, 0, none⟩ = false := by simp [World.frozen?, HV.out]
  have hfe : W.frozen? ⟨w.heap.size, 1, none⟩ = false := by simp [World.frozen?, HV.out]
  have hov : ∀ lb cb, (callFunc 197 #[.slice (some ⟨w.heap.size, 0, none⟩) 1 1, .slice (some ⟨g, 1, none⟩) lb cb]).run Try.prog W = .ok (.value (.bool false)) W := fun lb cb => by
    rw [run_callFunc_extern Try.func197 (by kernel_rfl) (by kernel_rfl) (by kernel_rfl) (e := Extern.SlicesOverlaps.overlaps #[77, 77] #[4]) (by kernel_rfl),
      Lib.run_overlaps_apart W 77 4 56 Try.underlying77 1 row_so ⟨w.heap.size, 0, none⟩ ⟨g, 1, none⟩ 1 1 lb cb HVG.out 56 56 1 cap hsa hsb (by omega) hfa hfe]
    rfl
  have HOV := Aside0.mk hov
  clear hov hsa hsb hfa hfe
  have HX_ := Aside0.mk (show (X.map SlH.val).length = Nat.min (X.length + 1) X.length by rw [List.length_map]; show _ = min _ _; omega)
  have HS2_ := Aside0.mk (show ∀ j v, (X.map SlH.val)[j]? = some v → cur[0 + j]? = some v from fun j v hj => by
    rw [← ht] at hj
    rw [List.getElem?_take] at hj
    rw [Nat.zero_add]
    split at hj
    · exact hj
    · cases hj)
  have HF2_ := Aside0.mk (show 1 + (X.map SlH.val).length ≤ cur.length by rw [List.length_map]; omega)
  have HO2_ := Aside0.mk (show ∀ v ∈ X.map SlH.val, v.oneCell' = true from fun v hv => by obtain ⟨x, _, rfl⟩ := List.mem_map.1 hv; rfl)
  have HN_ := Aside0.mk (show ([h.val] : List Value).length = Nat.min 1 (X.length + 1) by show 1 = min 1 (X.length + 1); omega)
  have HO_ := Aside0.mk (show ∀ v ∈ ([h.val] : List Value), v.oneCell' = true from fun v hv => by rw [List.mem_singleton.1 hv]; rfl)
  have hw1 : IntKind.i64.wrap 1 = 1 := by decide
  have hc1 : ¬ (cap = 1) := by omega
  have hc0 : ¬ (cap = 0) := by omega
  have hX1 : ¬ (X.length = 0) := by omega
  have hx1 : (1 : Int) ≤ (X.length : Int) + 1 := by omega
  have hx2 : (0 : Int) ≤ (X.length : Int) := by omega
  have hx3 : (X.length : Int) + 1 ≤ (cap : Int) := by omega
  have hx4 : (0 : Int) ≤ (X.length : Int) + 1 := by omega
  have hnc : ¬ ((cap : Int) < (X.length : Int) + 1) := by omega
  go_enter Try.func182, Try.ntmps182
  go_wp2_with (simp only [HOV.out])
  go_region_law (refine step_copy_g rfl _ _ 77 77 rfl 56 Try.underlying77 row_sz g 1 X.length (cap - 1) ⟨g, 0, none⟩ (X.length + 1) cap (by simp [Act.eval, Act.put]) (by simp [Act.eval, Act.put]) cur 56 HG.out (X.map SlH.val) HX_.out (fun j v hj => by rw [Addr.add_lit]; exact (cell_row HG.out _).trans (HS2_.out j v hj)) HF2_.out HO2_.out ?_; intro W3 hN3 hg3)
  have HV3 := Aside0.mk (show W3.heap[w.heap.size]? = some (.cells #[h.val] 56 (0, 0)) from (hg3.out.block w.heap.size ((Array.getElem?_eq_some_iff.1 HV.out).1) (fun he => HVG.out (Option.some.inj he))).trans HV.out)
  have HS_ := Aside0.mk (show ∀ j v, ([h.val] : List Value)[j]? = some v → W3.cell? ((⟨w.heap.size, 0, none⟩ : Addr).add j) = some v from fun j v hj => by
    have hv := cell_row (cur := [h.val]) HV3.out j
    rw [hj] at hv
    rw [Addr.add_lit, Nat.zero_add]
    exact hv)
  have HF_ := Aside0.mk (show 0 + ([h.val] : List Value).length ≤ (splice cur 1 (X.map SlH.val)).length by
    rw [length_splice _ _ _ HF2_.out]
    show 0 + 1 ≤ _
    omega)
  go_wp2_with (refine wp_copy_g rfl (.tmp 80) (.tmp 81) 77 77 rfl 56 Try.underlying77 row_sz g 0 (X.length + 1) cap ⟨w.heap.size, 0, none⟩ 1 1 rfl rfl (splice cur 1 (X.map SlH.val)) 56 hN3.out [h.val] HN_.out HS_.out HF_.out HO_.out ?_; intro W4 hN4 hg4)
  go_ret
  have hgw : w.grownBy W.drew (some g) := grown_below (bdrew HBW.out) _
  refine ⟨_, rfl, rfl, fun base hb => row_made hb hN4.out (by simp) hcap HCM.out ?_ ?_, grown_trans (grown_trans hgw hg3.out) hg4.out⟩
  · rw [length_splice _ _ _ HF_.out, length_splice _ _ _ HF2_.out]; exact hcl
  · exact splice_two' cur h.val (X.map SlH.val) (by rw [List.length_map]) (by omega)
theorem ins_c (v : Value) (X : List SlH) (h : SlH) (base : Nat) (w : World) (hX : 0 < X.length) (hl : X.length ≤ 1000) (hb : base ≤ w.heap.size) (HO : kSH.R 56 w base (fun _ => True) v X) :
    Calls Try.prog 182 #[v, .int .i64 0, .slice (some ⟨w.heap.size, 0, none⟩) 1 1] (w.alloc (.cells #[h.val] 56)) (fun e w' => ∃ v', e = .returned v' ∧ kSH.R 56 w' base (fun _ => True) v' (h :: X) ∧ w.grownBy w' v.ownBlock) := by
  have ho := Kd.own_of_R HO
  obtain ⟨h1, ⟨rfl, h0⟩ | ⟨g, cap, cur, rfl, hbg, hg, hn, hm, hs, ht⟩⟩ := ho
  · omega
  · have hg' : w.heap[g]? = some (.cells cur.toList.toArray 56 (0, 0)) := by simpa using hg
    have hcl : cur.toList.length = cap := by simpa using hs
    have ht' : cur.toList.take X.length = X.map SlH.val := by rw [← encs_SH, ← ht, Nat.mul_one]
    by_cases hc : X.length + 1 ≤ cap
    · refine (insRoom_c g cap X h cur.toList w hX hl hg' hc hm hcl ht').mono ?_
      rintro e w' ⟨v', rfl, _, hr, hgr⟩
      exact ⟨v', rfl, hr base hbg, hgr⟩
    · refine (insGrow_c g cap X h cur.toList w hX hl hg' (by omega) hcl ht').mono ?_
      rintro e w' ⟨v', rfl, hr, hB⟩
      exact ⟨v', rfl, Kd.R_lower hr hb, grown_below hB _⟩
theorem band_lo' : ∀ m : Fin 1001, bits .and .u64 ((m.val : Nat) : Int) 4294967295 = (m.val : Nat) := by decide +kernel
theorem band_lo (m : Nat) (h : m ≤ 1000) : bits .and .u64 (m : Int) 4294967295 = m := band_lo' ⟨m, by omega⟩
theorem band_1 : bits .and .u64 1 4294967295 = 1 := by decide +kernel
theorem band_0 : bits .and .u64 0 4294967295 = 0 := by decide +kernel
theorem mul64_c (m : Nat) (hm : m ≤ 1000) (w : World) : Calls Try.prog 205 #[.int .u64 1, .int .u64 m] w (RetS w (.tuple #[.int .u64 0, .int .u64 m])) := by
  have h1 := band_lo m hm
  have h2 := band_1
  have h3 := band_0
  have h4 : (m : Int) / 4294967296 = 0 := by omega
  have h5 : IntKind.u64.wrap (m : Int) = m := by simp only [IntKind.wrap, IntKind.bits, IntKind.signed]; simp; omega
  go_enter Try.func205, Try.ntmps205
  go_wp2
  go_ret2
  exact ⟨rfl, rfl⟩
theorem mul_c (m : Nat) (hm : m ≤ 1000) (w : World) : Calls Try.prog 196 #[.int .u64 1, .int .u64 m] w (RetS w (.tuple #[.int .u64 0, .int .u64 m])) := by
  have HM := Aside0.mk (mul64_c m hm w)
  go_enter Try.func196, Try.ntmps196
  go_wp2_with fail
  refine HM.out.mono ?_; rintro _ w1 ⟨rfl, rfl⟩
  go_wp2
  go_ret2
  exact ⟨rfl, rfl⟩
theorem row_i64 {w : World} {base g n cap : Nat} {cur : List Value} {X : List Int} (hb : base ≤ g) (hg : w.heap[g]? = some (.cells cur.toArray 2 (0, 0))) (hn : X.length = n) (hc : n ≤ cap) (hm : cap ≤ maxLen) (hs : cur.length = cap) (ht : cur.take n = X.map (Value.int .i64)) :
    (Kd.int .i64).R 2 w base (fun _ => True) (.slice (some ⟨g, 0, none⟩) n cap) X := by
  refine Kd.R_of_own ?_ (fun _ _ => trivial)
  refine ⟨by show (X.map (Value.int .i64)).length = _; rw [List.length_map, Nat.mul_one], .inr ⟨g, cap, cur.toArray, by rw [hn], hb, hg, by omega, hm, by simpa using hs, ?_⟩⟩
  show _ = X.map (Value.int .i64)
  rw [Nat.mul_one, hn]
  simpa using ht
theorem i64_sz : (Try.prog.info? 2).map (·.size) = some 1 := by kernel_rfl
theorem cell_i64 {w : World} {g : Nat} {cur : List Value} {t : TypeId} (h : w.heap[g]? = some (.cells cur.toArray t (0, 0))) (j : Nat) : w.cell? ⟨g, j, none⟩ = cur[j]? := cell_row h j
theorem rep_splice {cur : List Value} {x : Value} {n k : Nat} (h : cur.take n = List.replicate n x) (hn : n + k ≤ cur.length) : (splice cur n (List.replicate k x)).take (n + k) = List.replicate (n + k) x := by
  unfold splice
  rw [h, ← List.append_assoc, List.replicate_append_replicate, List.take_left' (by simp)]
set_option maxHeartbeats 2000000 in
theorem rep_c (A : Option Addr) (c : Nat) (x : Int) (m : Nat) (h1 : 1 ≤ m) (hm : m ≤ 1000) (w : World) (hC : (Kd.int .i64).C w A 1 [x]) :
    Calls Try.prog 181 #[.slice A 1 c, .int .i64 m] w (RetQ w (NewI64 w (List.replicate m x))) := by
  obtain ⟨ad, x', rfl, hbx, hxx⟩ := at_int' hC 0 (by omega)
  have hxe : x' = x := by have := hbx.out; simpa using this.symm
  subst hxe
  have HXX := Aside0.mk hxx
  have HM := Aside0.mk (mul_c m hm w)
  have hu : IntKind.u64.wrap (m : Int) = m := by simp only [IntKind.wrap, IntKind.bits, IntKind.signed]; simp; omega
  have hi : IntKind.i64.wrap (m : Int) = m := by rw [IntKind.wrap_i64]; omega
  have hu1 : IntKind.u64.wrap 1 = 1 := by decide
  clear hC hxx hbx
  have HN_ := Aside0.mk (show ([.int .i64 x'] : List Value).length = Nat.min 1 m by show 1 = min 1 m; omega)
  have HO_ := Aside0.mk (show ∀ v ∈ ([.int .i64 x'] : List Value), v.oneCell' = true from fun v hv => by rw [List.mem_singleton.1 hv]; rfl)
  go_enter Try.func181, Try.ntmps181
  go_wp2_with fail
  refine HM.out.mono ?_; rintro _ w1 ⟨rfl, rfl⟩
  go_wp2_with (first | (refine makeI64 (w := w) rfl (N := 30) rfl (.tmp 29) (.tmp 29) rfl m rfl rfl (by omega) (Below.refl _ _) ?_; intro v1 w1 hR hB; obtain ⟨hol, ⟨_, h0⟩ | ⟨g, cap, cur0, e1, hbg, hgg, hnc, hcm, hcs, _⟩⟩ := Kd.own_of_R hR; (exfalso; rw [List.length_replicate] at h0; omega); rw [List.length_replicate] at e1 hnc; subst e1; have HGG := Aside0.mk (show w1.heap[g]? = some (.cells cur0.toList.toArray 2 (0, 0)) by simpa using hgg); have HB := Aside0.mk hB; have HGB := Aside0.mk hbg; have HCM := Aside0.mk hcm; have HCL := Aside0.mk (show cur0.toList.length = cap by simpa using hcs); clear hR hB hol hgg hbg hcm hcs; have HS_ := Aside0.mk (show ∀ j v, ([.int .i64 x'] : List Value)[j]? = some v → w1.cell? (ad.add j) = some v from fun j v hj => by (have h2 := pw_cell_below HB.out HXX.out; cases j with | zero => (cases hj; exact h2) | succ j => (simp at hj))); have HF_ := Aside0.mk (show 0 + ([.int .i64 x'] : List Value).length ≤ cur0.toList.length by (rw [HCL.out]; show 0 + 1 ≤ _; omega))) | (refine wp_copy_g rfl (.tmp 31) (.tmp 32) 56 56 rfl 2 Try.underlying56 i64_sz g 0 m cap ad 1 c rfl rfl cur0.toList 2 HGG.out [.int .i64 x'] HN_.out HS_.out HF_.out HO_.out ?_; intro w2 hN2 hg2))
  have hgw : ∀ k, some g = some k → w.heap.size ≤ k := fun k hk => by cases hk; exact HGB.out
  have HB2 := Aside0.mk (pw_below_grown HB.out (some g) HB.out.size hg2.out hgw)
  have HF0 := Aside0.mk (show (splice cur0.toList 0 [.int .i64 x']).length = cap ∧ (splice cur0.toList 0 [.int .i64 x']).take 1 = List.replicate 1 (.int .i64 x') from ⟨by rw [length_splice _ _ _ HF_.out]; exact HCL.out, by simp [splice]⟩)
  have HGW := Aside0.mk hgw
  clear hgw
  go_loopg [8] (m - 1) (fun gk v8 wr => ∃ n : Nat, ∃ cur : List Value, n + gk = m ∧ v8 = .int .i64 n ∧ 1 ≤ n ∧ Aside0 (wr.heap[g]? = some (.cells cur.toArray 2 (0, 0))) ∧ Aside0 (cur.length = cap ∧ cur.take n = List.replicate n (.int .i64 x')) ∧ Aside0 (Below w.heap.size w wr))
  case atStart => exact ⟨1, _, by omega, rfl, Nat.le_refl _, hN2, HF0, HB2⟩
  case round =>
    clear HF0 HB2 hg2 hN2 HS_ HF_ HGG HCL
    obtain ⟨n, cur, hk, rfl, hn1, hgc, hcur, hb⟩ := hrel
    have HK := Aside0.mk hk
    by_cases hlt : n < m
    · obtain ⟨cs, hcs⟩ : ∃ cs, cs = List.replicate (min n (m - n)) (Value.int .i64 x') := ⟨_, rfl⟩
      have hcl : cs.length = min n (m - n) := by rw [hcs, List.length_replicate]
      have HCN := Aside0.mk (show cs.length = Nat.min n (m - n) from hcl)
      have HCO := Aside0.mk (show ∀ v ∈ cs, v.oneCell' = true from fun v hv => by rw [hcs] at hv; rw [List.eq_of_mem_replicate hv]; rfl)
      have HFI := Aside0.mk (show n + cs.length ≤ cur.length by rw [hcl, hcur.out.1]; omega)
      have HSRC := Aside0.mk (show ∀ j v, cs[j]? = some v → cur[0 + j]? = some v from fun j v hj => by
        rw [hcs] at hj
        obtain ⟨h1, h2⟩ := List.getElem?_eq_some_iff.1 hj
        rw [List.length_replicate] at h1
        have h3 : (cur.take n)[j]? = some v := by
          rw [hcur.out.2, ← h2]
          rw [List.getElem?_replicate, if_pos (by omega)]
          simp
        rw [List.getElem?_take, if_pos (by omega)] at h3
        rw [Nat.zero_add]; exact h3)
      have HNX := Aside0.mk (show (splice cur n cs).length = cap ∧ (splice cur n cs).take (n + cs.length) = List.replicate (n + cs.length) (.int .i64 x') from ⟨by rw [length_splice _ _ _ HFI.out]; exact hcur.out.1, by rw [hcl, hcs]; exact rep_splice hcur.out.2 (by have := HFI.out; rw [hcl] at this; exact this)⟩)
      have hc1 : 1 ≤ cs.length := by omega
      have hc2 : n + cs.length ≤ m := by omega
      have hws : IntKind.i64.wrap ((n : Int) + (cs.length : Int)) = (n : Int) + (cs.length : Int) := by rw [IntKind.wrap_i64]; omega
      have hcn : ¬ (cap = n) := by omega
      have hcm0 : ¬ (cap = 0) := by omega
      have i0 : (0 : Int) ≤ (n : Int) := by omega
      have i1 : (n : Int) ≤ (m : Int) := by omega
      have i2 : (n : Int) ≤ (cap : Int) := by omega
      have i3 : (n : Int) < (m : Int) := by omega
      clear hcl hcs hk
      go_wp2_with fail
      go_region_law (refine step_copy_g rfl _ _ 56 56 rfl 2 Try.underlying56 i64_sz g n (m - n) (cap - n) ⟨g, 0, none⟩ n cap (by simp [Act.eval, Act.put]) (by simp [Act.eval, Act.put]) cur 2 hgc.out cs HCN.out (fun j v hj => by rw [Addr.add_lit]; exact (cell_i64 hgc.out _).trans (HSRC.out j v hj)) HFI.out HCO.out ?_; intro w3 hN3 hg3)
      have HB3 := Aside0.mk (show Below w.heap.size w w3 from by have h := bdrew hb.out; exact pw_below_grown h (some g) h.size hg3.out HGW.out)
      go_wp2
      go_roundg (gk - cs.length)
      case measure => have := HK.out; omega
      case rel => exact ⟨n + cs.length, splice cur n cs, by have := HK.out; omega, by go_num, by omega, hN3, HNX, HB3⟩
    · have hnm : n = m := by omega
      have HR := Aside0.mk (show (Kd.int .i64).R 2 wr w.heap.size (fun _ => True) (.slice (some ⟨g, 0, none⟩) m cap) (List.replicate m x') from row_i64 HGB.out hgc.out (by simp) hnc HCM.out hcur.out.1 (by rw [List.map_replicate, ← hnm]; exact hcur.out.2))
      clear hk hnm
      go_wp2
      go_ret
      exact ⟨_, rfl, hb.out, HR.out⟩
end Go.Proofs.Ytdippdkneeocfaa
