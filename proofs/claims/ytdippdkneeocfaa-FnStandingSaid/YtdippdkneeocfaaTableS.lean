/- The table of least sums: the reference's walk. -/
import Derived.Test.YtdippdkneeocfaaLeast
import Derived.StillTailTactics
import Derived.Still
import Derived.Deep.QuietTactic
import Derived.BigQuiet
import Derived.Deep.RegionHeld3
namespace Go.Proofs.Ytdippdkneeocfaa
open Go.RowKit Go.Proofs.YtdippdkneeocfaaW.PrintWords Go.Proofs.YtdippdkneeocfaaW.PrintMore
set_option linter.unusedVariables false
set_option linter.unusedSimpArgs false
set_option maxRecDepth 100000

def pzB (k : Cs) (b : Bool) (M : List Bk) : Int := if b = true then usL M else sqL k M
theorem prL_yes {k : Cs} {s : Nat} {M : List Bk} {b : Bool} (h : fitL k s M = true) : prL k s M b = pzB k b M := by unfold prL pzB; rw [h, if_pos rfl]
theorem prL_no {k : Cs} {s : Nat} {M : List Bk} {b : Bool} (h : fitL k s M = false) : prL k s M b = -1 := by unfold prL; rw [h]; rfl
theorem pzB_ok {k : Cs} (hk : CsBd k) (b : Bool) : PzOk k (pzB k b) := ⟨fun s M hM hf => by
  unfold pzB
  cases b
  · exact sq_bd' hk hM hf
  · unfold usL
    rw [if_pos rfl]
    split <;> omega⟩
section
variable {ops : Array Oper} {rest : List Oper} {o : Oper} {a : Act} {Q : Exit → Act → World → Prop}
theorem sh_make {w W : World} (hgd : o.guard = none) {N : Tmp} (hd : o.dst = some N) (x y : Operand) (ho : o.op = .makeSlice 77 x y) (n : Nat) (hx : a.eval x = .int .i64 n) (hy : a.eval y = .int .i64 n)
    (hn : n ≤ 2097152) (HB : Below w.heap.size w W)
    (h : ∀ v1 w1, kSH.R 56 w1 w.heap.size (fun _ => True) v1 (List.replicate n ⟨none, 0, 0⟩) → Below w.heap.size w w1 → wpList Try.prog ops Q rest (a.put o.dst v1) w1) : wpList Try.prog ops Q (o :: rest) a W := by
  refine Kd.R_make kSH (w0 := w) w.heap.size 56 hgd hd 77 x y ho (n : Int) hx hy Try.underlying77 (.slice none 0 0) 24 info_row rfl Nat.one_pos (by decide) ⟨none, 0, 0⟩ (ok := fun _ => True) (okp := fun _ => True) rfl (fun _ h => h) trivial (by omega) (by simp only [Int.toNat_natCast]; omega) HB HB.size ?_
  intro v1 w1 h1 h2 h3 h4
  rw [Int.toNat_natCast] at h1
  exact h v1 w1 h1 h2
end
section
variable {w0 w : World}
theorem OwnT.fresh {v : Value} {n : Nat} (h : kSH.R 56 w w0.heap.size (fun _ => True) v (List.replicate n ⟨none, 0, 0⟩)) : OwnT w0 w v (List.replicate n ⟨none, 0, 0⟩) (List.replicate n []) := by
  refine ⟨Kd.R_tight kSH_E h, by simp, fun j x r hx hr => ?_, fun i j x y hne hx hy b hb => ?_⟩
  · rw [List.eq_of_mem_replicate (List.mem_of_getElem? hx), List.eq_of_mem_replicate (List.mem_of_getElem? hr)]
    exact Kd.R_nil _ _ _ _ _
  · rw [List.eq_of_mem_replicate (List.mem_of_getElem? hx)] at hb
    simp [SlH.val, Value.ownBlock] at hb
theorem OwnT.cellg {g n cap i : Nat} {X : List SlH} {T : List (List Int)} {x : SlH} (h : OwnT w0 w (.slice (some ⟨g, 0, none⟩) n cap) X T) (hx : X[i]? = some x) : w.cell? ⟨g, i, none⟩ = some x.val ∧ w.frozen? ⟨g, i, none⟩ = false := by
  have hn := (Kd.R_reads' h.out).1
  have hl := (List.getElem?_eq_some_iff.1 hx).1
  have := Kd.R_celln (⟨none, 0, 0⟩ : SlH) h.out (i : Int) (by omega) (by omega)
  rw [Int.toNat_natCast] at this
  unfold rdOf at this
  rw [Int.toNat_natCast, List.getD_eq_getElem?_getD, hx] at this
  exact this
/-- A row that holds something lies in a block. -/
theorem OwnT.blk {v : Value} {i : Nat} {X : List SlH} {T : List (List Int)} {r : List Int} (h : OwnT w0 w v X T) (hr : T[i]? = some r) (h0 : 0 < r.length) : ∃ b c, X[i]? = some ⟨some ⟨b, 0, none⟩, r.length, c⟩ := by
  have hl := (List.getElem?_eq_some_iff.1 hr).1
  obtain ⟨x, hX⟩ : ∃ x, X[i]? = some x := ⟨_, List.getElem?_eq_getElem (by have := h.len; omega)⟩
  have ho := h.row i _ r hX hr
  obtain ⟨b, c, e, _⟩ := Kd.R_form ho h0
  refine ⟨b, c, ?_⟩
  rw [hX]
  obtain ⟨A, n, c'⟩ := x
  unfold SlH.val at e
  injection e with e1 e2 e3
  simp only at e1 e2 e3
  rw [e1, e2, e3]
theorem OwnT.cellr {v : Value} {i b n c m : Nat} {X : List SlH} {T : List (List Int)} {r : List Int} {y : Int} (h : OwnT w0 w v X T) (hx : X[i]? = some ⟨some ⟨b, 0, none⟩, n, c⟩) (hr : T[i]? = some r) (hy : r[m]? = some y) : w.cell? ⟨b, m, none⟩ = some (.int .i64 y) ∧ w.frozen? ⟨b, m, none⟩ = false := by
  have ho : (Kd.int .i64).R 2 w w0.heap.size (fun k => some k = (Value.slice (some ⟨b, 0, none⟩) n c).ownBlock) (.slice (some ⟨b, 0, none⟩) n c) r := h.row i _ r hx hr
  have hn := (Kd.R_reads' ho).1
  have hl := (List.getElem?_eq_some_iff.1 hy).1
  have := Kd.R_celln (0 : Int) ho (m : Int) (by omega) (by omega)
  rw [Int.toNat_natCast] at this
  unfold rdOf at this
  rw [Int.toNat_natCast, List.getD_eq_getElem?_getD, hy] at this
  exact this
theorem OwnT.base {v : Value} {i b n c : Nat} {X : List SlH} {T : List (List Int)} {r : List Int} (h : OwnT w0 w v X T) (hx : X[i]? = some ⟨some ⟨b, 0, none⟩, n, c⟩) (hr : T[i]? = some r) : w0.heap.size ≤ b := by
  have ho : (Kd.int .i64).R 2 w w0.heap.size (fun k => some k = (Value.slice (some ⟨b, 0, none⟩) n c).ownBlock) (.slice (some ⟨b, 0, none⟩) n c) r := h.row i _ r hx hr
  exact Kd.R_base ho b rfl
end
def neg (n : Nat) : List Int := List.replicate (n + 1) (-1)
theorem neg_len (n : Nat) : (neg n).length = n + 1 := List.length_replicate
def midT (s : Nat) (a r : List Int) (tl : List (List Int)) : List (List Int) := List.replicate s a ++ r :: tl
theorem midT_at (s : Nat) (a r : List Int) (tl : List (List Int)) : (midT s a r tl)[s]? = some r := by
  unfold midT
  rw [List.getElem?_append_right (by simp), List.length_replicate, Nat.sub_self]
  rfl
theorem midT_next (s : Nat) (a r : List Int) (tl : List (List Int)) : (midT s a r tl)[s + 1]? = tl[0]? := by
  unfold midT
  rw [List.getElem?_append_right (by simp), List.length_replicate, show s + 1 - s = 0 + 1 by omega, List.getElem?_cons_succ]
theorem midT_set (s : Nat) (a r r' : List Int) (tl : List (List Int)) : (midT s a r tl).set s r' = midT s a r' tl := by
  unfold midT
  rw [List.set_append_right _ _ (by simp), List.length_replicate, Nat.sub_self, List.set_cons_zero]
theorem midT_push (s : Nat) (a : List Int) (tl : List (List Int)) : midT s a a tl = List.replicate (s + 1) a ++ tl := by
  unfold midT
  rw [List.replicate_succ', List.append_assoc]
  rfl
theorem midT_zero (s n : Nat) (a r : List Int) (h : s ≤ n) : (List.replicate s a ++ List.replicate (n + 1 - s) ([] : List Int)).set s r = midT s a r (List.replicate (n - s) []) := by
  obtain ⟨g, hg⟩ : ∃ g, n + 1 - s = g + 1 := ⟨n - s, by omega⟩
  unfold midT
  rw [List.set_append_right _ _ (by simp), List.length_replicate, Nat.sub_self, hg, List.replicate_succ, List.set_cons_zero, show n - s = g by omega]
def rowZ (n i : Nat) : List Int := List.replicate i (-1) ++ List.replicate (n + 1 - i) 0
theorem rowZ_len {n i : Nat} (h : i ≤ n + 1) : (rowZ n i).length = n + 1 := by unfold rowZ; rw [List.length_append, List.length_replicate, List.length_replicate]; omega
theorem rowZ_at {n i : Nat} (h : i ≤ n) : (rowZ n i)[i]? = some 0 := by
  unfold rowZ
  rw [List.getElem?_append_right (by simp), List.length_replicate, Nat.sub_self, List.getElem?_replicate, if_pos (by omega)]
theorem rowZ_set {n i : Nat} (h : i ≤ n) : (rowZ n i).set i (-1) = rowZ n (i + 1) := by
  obtain ⟨g, hg⟩ : ∃ g, n + 1 - i = g + 1 := ⟨n - i, by omega⟩
  unfold rowZ
  rw [List.set_append_right _ _ (by simp), List.length_replicate, Nat.sub_self, hg, List.replicate_succ, List.set_cons_zero, show n + 1 - (i + 1) = g by omega, List.replicate_succ' (n := i), List.append_assoc]
  rfl
theorem rowZ_done (n : Nat) : rowZ n (n + 1) = neg n := by unfold rowZ neg; rw [Nat.sub_self]; simp
set_option maxHeartbeats 16000000 in
theorem l02Table_c (k : Cs) (A : Option Addr) (c : Nat) (p : Addr) (A1 : Option Addr) (c1 : Nat) (L : List Bk) (bb : Bool) (hok : k.ok) (hVK : CsBd k) (hFO : FitOk L) (hc1 : L.length ≤ c1) (w : World) (hp : CsAt w p k A c) (hC : (Kd.int .i16).C w A k.hs.length k.hs) (hL : kBk.C w A1 L.length L) :
    Calls Try.prog 153 #[.pointer (some p), .slice A1 L.length c1, .bool bb] w (RetQ w (NewTO w (taL k (pzB k bb) L))) := by
  have hm := Kd.C_max hC
  have hm1 := Kd.C_max hL
  have HC := Aside0.mk hC
  have HL := Aside0.mk hL
  have HX := Aside0.mk hp
  have HOK := Aside0.mk hok
  have HVK := Aside0.mk hVK
  have HFO := Aside0.mk hFO
  have HPZ := Aside0.mk (pzB_ok hVK bb)
  have hl60 := hFO.len
  have hn12 := hVK.n.2
  have hwn := wrap_suc L.length (by omega)
  have hwS := wrap_suc k.hs.length (by omega)
  have hwp := wrap_pred k.hs.length (by omega)
  obtain ⟨y0, y1, y2⟩ := HX.out
  have HPR := Aside0.mk (fun (s : Nat) (hs : s < k.hs.length) A' c' (M : List Bk) (hM : M.Sublist L) W h1 h2 h3 => l02Price_c k A c s p A' c' M bb HOK.out HVK.out (HFO.out.sub hM) hs W h1 h2 h3)
  have HPB := Aside0.mk (fun {s : Nat} {M : List Bk} (h : fitL k s M = true) => prL_yes (b := bb) h)
  generalize pzB k bb = pz at HPZ HPB ⊢
  clear hC hL hok hVK hFO hp
  go_enter Try.func153, Try.ntmps153
  go_wp2_with (refine sh_make (w := w) rfl (N := 26) rfl (.tmp 25) (.tmp 25) rfl (k.hs.length + 1) (by rfl) (by rfl) (by omega) (Below.refl _ _) ?_; intro v1 w1 hR hB; obtain ⟨g, cap, e1, hg, _⟩ := Kd.R_form hR (by simp); rw [List.length_replicate] at e1; subst e1; have HT0 := Aside0.mk (OwnT.fresh hR); have HB1 := Aside0.mk hB; have HG := Aside0.mk hg; clear hR hB hg)
  clear y0 y1 y2
  go_loopg [10] (k.hs.length + 1) (fun gk v10 wr => ∃ s : Nat, ∃ X : List SlH, s + gk = k.hs.length + 1 ∧ v10 = .int .i64 s ∧ Aside0 (OwnT w wr (.slice (some ⟨g, 0, none⟩) (k.hs.length + 1) cap) X (List.replicate s (neg L.length) ++ List.replicate (k.hs.length + 1 - s) [])) ∧ Aside0 (Below w.heap.size w wr))
  case atStart => exact ⟨0, _, by omega, rfl, ⟨HT0.out⟩, HB1⟩
  case round =>
    clear HT0 HB1
    obtain ⟨s, X, hk, rfl, HT, HB⟩ := hrel
    have HK := Aside0.mk hk
    by_cases hlt : s < k.hs.length + 1
    · obtain ⟨gs, rfl⟩ : ∃ g : Nat, g = gk := ⟨_, rfl⟩
      obtain ⟨ws, rfl⟩ : ∃ W : World, W = wr := ⟨_, rfl⟩
      have i0 : (0 : Int) ≤ (s : Int) := by omega
      have i1 : (s : Int) < (k.hs.length : Int) + 1 := by omega
      have i2 : (s : Int) ≤ (k.hs.length : Int) := by omega
      clear hk
      go_wp2_with (refine makeI64 (w := ws) rfl (N := 36) rfl (.tmp 35) (.tmp 35) rfl (L.length + 1) (by rfl) (by rfl) (by omega) (Below.refl _ _) ?_; intro v2 w2 hR2 hB2; obtain ⟨b, cap2, e2, hgb, _, _⟩ := row_open (n := L.length) (x := 0) hR2; subst e2; have hTb := HT.out.below hB2; have hcg := hTb.out; obtain ⟨hc_, hf_⟩ := Kd.R_celln (⟨none, 0, 0⟩ : SlH) hcg (s : Int) (by omega) (by omega); rw [Int.toNat_natCast] at hc_ hf_; have HR2 := Aside0.mk hR2; have HB2 := Aside0.mk hB2; have HTb := Aside0.mk hTb; clear hR2 hB2 hTb hcg hgb)
      clear hc_ hf_
      obtain ⟨HT2, hg2⟩ := HTb.out.set s (x := ⟨some ⟨b, 0, none⟩, L.length + 1, cap2⟩) (r := List.replicate (L.length + 1) 0) (Kd.R_tight (kInt_E _) (Kd.R_lower HR2.out HB.out.size)) (fun j y _ hy => by
        obtain ⟨rq, hrq⟩ : ∃ rq, (List.replicate s (neg L.length) ++ List.replicate (k.hs.length + 1 - s) [])[j]? = some rq := ⟨_, List.getElem?_eq_getElem (by rw [← HT.out.len]; exact (List.getElem?_eq_some_iff.1 hy).1)⟩
        exact Apart.new (HT.out.row j y rq hy hrq) HR2.out)
      rw [midT_zero s k.hs.length _ _ (by omega)] at HT2
      have HB3 := Aside0.mk (pw_below_grown (bstep HB.out HB2.out) _ (Nat.le_trans HB.out.size HB2.out.size) hg2 (fun q hq => by cases hq; exact HG.out))
      have HX1 := Aside0.mk (show (X.set s ⟨some ⟨b, 0, none⟩, L.length + 1, cap2⟩)[s]? = some ⟨some ⟨b, 0, none⟩, L.length + 1, cap2⟩ by
        rw [List.getElem?_set_self]
        have := HT.out.len
        rw [List.length_append, List.length_replicate, List.length_replicate] at this
        omega)
      have HT2 := Aside0.mk HT2
      simp only [SlH.val] at HT2 HB3
      generalize X.set s ⟨some ⟨b, 0, none⟩, L.length + 1, cap2⟩ = X1 at HT2 HX1
      clear HTb HT HR2 HB2 hg2
      go_loopg [11] (L.length + 1) (fun gk v11 wi => ∃ i : Nat, i + gk = L.length + 1 ∧ v11 = .int .i64 i ∧ Aside0 (OwnT w wi (.slice (some ⟨g, 0, none⟩) (k.hs.length + 1) cap) X1 (midT s (neg L.length) (rowZ L.length i) (List.replicate (k.hs.length - s) []))) ∧ Aside0 (Below w.heap.size w wi))
      case atStart => exact ⟨0, by omega, rfl, ⟨HT2.out⟩, HB3⟩
      case round =>
        clear HT2 HB3
        obtain ⟨i, hk, rfl, HT, HB⟩ := hrel
        have HKi := Aside0.mk hk
        by_cases hil : i < L.length + 1
        · obtain ⟨hcg, _⟩ := HT.out.cellg HX1.out
          obtain ⟨hcr, hfr⟩ := HT.out.cellr HX1.out (midT_at _ _ _ _) (rowZ_at (by omega))
          have HP := Aside0.mk (HT.out.put HX1.out (midT_at _ _ _ _) i (-1))
          rw [midT_set, rowZ_set (by omega)] at HP
          have HBP := Aside0.mk (Below.setCell HB.out (p := ⟨b, i, none⟩) (HT.out.base HX1.out (midT_at _ _ _ _)) (.int .i64 (-1)))
          have j0 : (0 : Int) ≤ (i : Int) := by omega
          have j1 : (i : Int) < (L.length : Int) + 1 := by omega
          have j2 : (i : Int) ≤ (L.length : Int) := by omega
          simp only [SlH.val] at hcg
          clear hk
          go_wp2
          go_roundg (gk - 1)
          case measure => have := HKi.out; omega
          case rel => exact ⟨i + 1, by have := HKi.out; omega, by go_num, HP, HBP⟩
        · have hin : i = L.length + 1 := by omega
          have HT3 := Aside0.mk (show OwnT w wr (.slice (some ⟨g, 0, none⟩) (k.hs.length + 1) cap) X1 (List.replicate (s + 1) (neg L.length) ++ List.replicate (k.hs.length + 1 - (s + 1)) []) by
            rw [show k.hs.length + 1 - (s + 1) = k.hs.length - s by omega, ← midT_push]
            have h := HT.out
            rw [hin, rowZ_done] at h
            exact h)
          have hnl : ¬ ((i : Int) ≤ (L.length : Int)) := by omega
          clear hk hin hil
          go_wp2
          go_roundg (gs - 1)
          case measure => have := HK.out; omega
          case rel => exact ⟨s + 1, _, by have := HK.out; omega, by go_num, HT3, HB⟩
    · have hsS : s = k.hs.length + 1 := by omega
      have hns : ¬ ((s : Int) ≤ (k.hs.length : Int)) := by omega
      have HT1 := Aside0.mk (show OwnT w wr (.slice (some ⟨g, 0, none⟩) (k.hs.length + 1) cap) X (midT k.hs.length (neg L.length) (neg L.length) []) by
        rw [midT_push, List.append_nil]
        have := HT.out
        rw [hsS, Nat.sub_self] at this
        simpa using this)
      obtain ⟨b, cb, hXS⟩ := HT1.out.blk (midT_at _ _ _ _) (by rw [neg_len]; omega)
      rw [neg_len] at hXS
      obtain ⟨hcg, _⟩ := HT1.out.cellg hXS
      obtain ⟨hcr, hfr⟩ := HT1.out.cellr hXS (midT_at _ _ _ _) (m := L.length) (y := -1) (by unfold neg; rw [List.getElem?_replicate, if_pos (by omega)])
      have HP := Aside0.mk (HT1.out.put hXS (midT_at _ _ _ _) L.length 0)
      rw [midT_set, neg, lastR_set] at HP
      have HBP := Aside0.mk (Below.setCell HB.out (p := ⟨b, L.length, none⟩) (HT1.out.base hXS (midT_at _ _ _ _)) (.int .i64 0))
      have HPT := Aside0.mk (show OwnT w _ (.slice (some ⟨g, 0, none⟩) (k.hs.length + 1) cap) X (List.replicate (k.hs.length - 0) (neg L.length) ++ taN k pz L 0) from HP.out)
      simp only [SlH.val] at hcg
      have l0 : (0 : Int) ≤ (L.length : Int) := by omega
      have l1 : (L.length : Int) < (L.length : Int) + 1 := by omega
      have l2 : (0 : Int) ≤ (k.hs.length : Int) := by omega
      have l3 : (k.hs.length : Int) < (k.hs.length : Int) + 1 := by omega
      clear hk hsS hlt HT HT1 HP hXS
      go_wp2
      clear hcg hcr hfr HB HK hns l0 l1 l2 l3
      obtain ⟨g0, rfl⟩ : ∃ g : Nat, g = gk := ⟨_, rfl⟩
      go_loopg [12] k.hs.length (fun gk v12 wr => ∃ j : Nat, ∃ sI : Int, ∃ X : List SlH, v12 = .int .i64 sI ∧ Aside0 (j + gk = k.hs.length ∧ sI = (gk : Int) - 1) ∧ Aside0 (OwnT w wr (.slice (some ⟨g, 0, none⟩) (k.hs.length + 1) cap) X (List.replicate (k.hs.length - j) (neg L.length) ++ taN k pz L j)) ∧ Aside0 (Below w.heap.size w wr))
      case atStart => exact ⟨0, (k.hs.length : Int) - 1, _, rfl, ⟨by omega, rfl⟩, HPT, HBP⟩
      case round =>
        clear HPT HBP
        obtain ⟨j, sI, X, rfl, hjs, HT, HB⟩ := hrel
        by_cases hs0 : 0 ≤ sI
        · obtain ⟨s, rfl⟩ := Int.eq_ofNat_of_zero_le hs0
          have hsj := hjs.out
          have hsl : s < k.hs.length := by omega
          have HSJ := Aside0.mk (show s = k.hs.length - (j + 1) by omega)
          have hj12 : j ≤ 11 := by omega
          have HJK := Aside0.mk (show (gk : Int) = (s : Int) + 1 ∧ j + 1 + (gk - 1) = k.hs.length by omega)
          have hwsp := wrap_pred s (by omega)
          have hws := wrap_suc s (by omega)
          obtain ⟨gs, rfl⟩ : ∃ g : Nat, g = gk := ⟨_, rfl⟩
          obtain ⟨ws, rfl⟩ : ∃ W : World, W = wr := ⟨_, rfl⟩
          have HT1 := Aside0.mk (show OwnT w ws (.slice (some ⟨g, 0, none⟩) (k.hs.length + 1) cap) X (midT s (neg L.length) (neg L.length) (taN k pz L j)) by
            rw [midT_push, show s + 1 = k.hs.length - j by omega]
            exact HT.out)
          obtain ⟨nx, hnx⟩ : ∃ nx, (taN k pz L j).headD [] = nx := ⟨_, rfl⟩
          have HNX := Aside0.mk hnx
          have HNB := Aside0.mk (show RowBd (4000000 * j) nx from by rw [← hnx]; exact taN_bd HPZ.out HFO.out j _ (List.mem_of_getElem? (taN_head k pz L j)))
          have HNL := Aside0.mk (show nx.length = L.length + 1 from by rw [← hnx]; exact taN_row k pz L j _ (List.mem_of_getElem? (taN_head k pz L j)))
          have HNH := Aside0.mk (show (taN k pz L j)[0]? = some nx from by rw [← hnx]; exact taN_head k pz L j)
          have HTA := Aside0.mk (show taN k pz L (j + 1) = roR k pz L s nx :: taN k pz L j from by rw [taN, HNX.out, ← HSJ.out])
          obtain ⟨tl, htl⟩ : ∃ T, taN k pz L j = T := ⟨_, rfl⟩
          rw [htl] at HT1 HNH HTA
          obtain ⟨b, cb, hXS⟩ := HT1.out.blk (midT_at _ _ _ _) (by rw [neg_len]; omega)
          obtain ⟨b2, cb2, hXN⟩ := HT1.out.blk (i := s + 1) (r := nx) (by rw [midT_next]; exact HNH.out) (by have := HNL.out; omega)
          rw [neg_len] at hXS
          rw [HNL.out] at hXN
          have HXS := Aside0.mk hXS
          have HXN := Aside0.mk hXN
          have HNXT := Aside0.mk (show ∀ r, (midT s (neg L.length) r tl)[s + 1]? = some nx from fun r => by rw [midT_next]; exact HNH.out)
          have HRS := Aside0.mk (RoS.start L.length (ceF k pz L s nx))
          clear hsj hjs hs0 hnx htl hXS hXN HT HNH
          go_wp2
          go_loopg [13] (L.length + 1) (fun gk v13 wi => ∃ i : Nat, ∃ r : List Int, i + gk = L.length + 1 ∧ v13 = .int .i64 i ∧ Aside0 (RoS L.length (ceF k pz L s nx) i (-1) r) ∧ Aside0 (OwnT w wi (.slice (some ⟨g, 0, none⟩) (k.hs.length + 1) cap) X (midT s (neg L.length) r tl)) ∧ Aside0 (Below w.heap.size w wi))
          case atStart => exact ⟨0, _, by omega, rfl, HRS, HT1, HB⟩
          case round =>
            clear HRS HT1 HB
            obtain ⟨i, r0, hk, rfl, hro, HTi, HBi⟩ := hrel
            have HKi := Aside0.mk hk
            by_cases hil : i < L.length + 1
            · obtain ⟨gi, rfl⟩ : ∃ g : Nat, g = gk := ⟨_, rfl⟩
              obtain ⟨wi, rfl⟩ : ∃ W : World, W = wr := ⟨_, rfl⟩
              have ii0 : (0 : Int) ≤ (i : Int) := by omega
              have ii1 : (i : Int) < (L.length : Int) + 1 := by omega
              have ii2 : (i : Int) ≤ (L.length : Int) := by omega
              clear hk
              go_wp2
              go_loopg [14] (L.length + 1 - i) (fun gk v14 wr => ∃ m : Nat, ∃ acc : Int, ∃ r : List Int, m + gk = L.length + 1 ∧ v14 = .int .i64 m ∧ Aside0 (i ≤ m ∧ RoS L.length (ceF k pz L s nx) i acc r ∧ ceR k pz L s nx i (L.length + 1 - m) m acc = ceF k pz L s nx i ∧ -1 ≤ acc ∧ acc ≤ 100000000) ∧ Aside0 (OwnT w wr (.slice (some ⟨g, 0, none⟩) (k.hs.length + 1) cap) X (midT s (neg L.length) r tl)) ∧ Aside0 (Below w.heap.size w wr))
              case atStart => exact ⟨i, -1, r0, by omega, rfl, ⟨Nat.le_refl _, hro.out, rfl, by omega, by omega⟩, HTi, HBi⟩
              case round =>
                clear HTi HBi
                obtain ⟨m, acc, r, hk, rfl, hrs, HTm, HBm⟩ := hrel
                have HKm := Aside0.mk hk
                have him := hrs.out.1
                have ha0 := hrs.out.2.2.2.1
                have ha1 := hrs.out.2.2.2.2
                by_cases hml : m ≤ L.length
                · obtain ⟨Ax, cx, hcut, hcx, hCC⟩ := cut_bk A1 c1 L (i : Int) (m : Int) (by omega) (by omega) (by omega) hc1
                  have hPr := HPR.out s hsl Ax cx (subL L (i : Int) (m : Int)) (subL_sub L _ _) wr (HX.out.below HBm.out) (Kd.C_below HC.out HBm.out) (hCC wr (Kd.C_below HL.out HBm.out))
                  have im0 : (0 : Int) ≤ (m : Int) := by omega
                  have im1 : (m : Int) ≤ (L.length : Int) := by omega
                  clear hk
                  cases hft : fitL k s (subL L (i : Int) (m : Int))
                  · have HRO := Aside0.mk (show RoS L.length (ceF k pz L s nx) (i + 1) (-1) r from hrs.out.2.1.next (by rw [← hrs.out.2.2.1]; exact (ceR_stop hft).symm))
                    rw [prL_no hft] at hPr
                    have HPr := Aside0.mk hPr
                    clear hft hPr hCC
                    generalize subL L (i : Int) (m : Int) = M at HPr hcut hcx
                    go_wp2_with fail
                    refine HPr.out.mono ?_; rintro _ wq1 ⟨rfl, hb1⟩
                    have HQ := Aside0.mk (bstep HBm.out hb1)
                    have HTq := Aside0.mk (HTm.out.below hb1)
                    clear hcut hb1
                    go_wp2
                    go_roundg (gi - 1)
                    case measure => have := HKi.out; omega
                    case rel => exact ⟨i + 1, r, by have := HKi.out; omega, by go_num, HRO, HTq, HQ⟩
                  · have zb := HPZ.out.bd s _ (HFO.out.sub (subL_sub L (i : Int) (m : Int))) hft
                    have HSTEP := Aside0.mk (show ceR k pz L s nx i (L.length + 1 - m) m acc = ceR k pz L s nx i (L.length + 1 - (m + 1)) (m + 1) (stR acc (nx.getD m 0) (pz (subL L (i : Int) (m : Int)))) from by
                      rw [ceR_hit (by omega) hft, show L.length + 1 - m - 1 = L.length + 1 - (m + 1) by omega])
                    rw [HPB.out hft] at hPr
                    have HPr := Aside0.mk hPr
                    clear hft hPr hCC
                    generalize subL L (i : Int) (m : Int) = M at HPr hcut hcx zb HSTEP
                    generalize pz M = z at HPr zb HSTEP
                    obtain ⟨z0, z1⟩ := zb
                    go_wp2_with fail
                    refine HPr.out.mono ?_; rintro _ wq1 ⟨rfl, hb1⟩
                    have HQ := Aside0.mk (bstep HBm.out hb1)
                    have HTq := Aside0.mk (HTm.out.below hb1)
                    obtain ⟨rest, hrx⟩ : ∃ x, nx[m]? = some x := ⟨_, List.getElem?_eq_getElem (by have := HNL.out; omega)⟩
                    have HRD := Aside0.mk (show nx.getD m 0 = rest by rw [List.getD_eq_getElem?_getD, hrx]; rfl)
                    have hrb := HNB.out.getD (by omega) m
                    rw [HRD.out] at hrb HSTEP
                    obtain ⟨rb0, rb1⟩ := hrb
                    obtain ⟨hcgN, _⟩ := HTq.out.cellg HXN.out
                    obtain ⟨hcrN, _⟩ := HTq.out.cellr HXN.out (HNXT.out r) hrx
                    obtain ⟨hcgS, _⟩ := HTq.out.cellg HXS.out
                    obtain ⟨hcrS, hfrS⟩ := HTq.out.cellr HXS.out (midT_at _ _ _ _) (hrs.out.2.1.at (by omega))
                    simp only [SlH.val] at hcgN hcgS
                    have hwz := wrap_sum (a := z) (z := rest) (by omega) (by omega) (by omega) (by omega)
                    have s0 : (0 : Int) ≤ (s : Int) := by omega
                    have s1 : (s : Int) + 1 < (k.hs.length : Int) + 1 := by omega
                    have s2 : (s : Int) < (k.hs.length : Int) + 1 := by omega
                    have s3 : (0 : Int) ≤ (s : Int) + 1 := by omega
                    have s4 : ((s : Int) + 1).toNat = s + 1 := by omega
                    have m1 : (m : Int) < (L.length : Int) + 1 := by omega
                    clear hcut hb1 hrx
                    by_cases hst : 0 ≤ rest ∧ (acc < 0 ∨ z + rest < acc)
                    · obtain ⟨hst0, hst1⟩ := hst
                      have HNEW := Aside0.mk (show stR acc rest z = z + rest from by rw [stR_yes (by omega) (by omega)]; omega)
                      have HP := Aside0.mk (HTq.out.put HXS.out (midT_at _ _ _ _) i (z + rest))
                      rw [midT_set] at HP
                      have HBP := Aside0.mk (Below.setCell HQ.out (p := ⟨b, i, none⟩) (HTq.out.base HXS.out (midT_at _ _ _ _)) (.int .i64 (z + rest)))
                      by_cases hacc : acc < 0
                      · clear hst1
                        go_wp2
                        go_roundg (gk - 1)
                        case measure => have := HKm.out; omega
                        case rel => exact ⟨m + 1, z + rest, r.set i (z + rest), by have := HKm.out; omega, by go_num, ⟨by omega, hrs.out.2.1.put (z + rest), by rw [← hrs.out.2.2.1, HSTEP.out, HNEW.out], by omega, by omega⟩, HP, HBP⟩
                      · have hst2 : z + rest < acc := by omega
                        have hacc' : 0 ≤ acc := by omega
                        clear hst1 hacc
                        go_wp2
                        go_roundg (gk - 1)
                        case measure => have := HKm.out; omega
                        case rel => exact ⟨m + 1, z + rest, r.set i (z + rest), by have := HKm.out; omega, by go_num, ⟨by omega, hrs.out.2.1.put (z + rest), by rw [← hrs.out.2.2.1, HSTEP.out, HNEW.out], by omega, by omega⟩, HP, HBP⟩
                    · have HNEW := Aside0.mk (show stR acc rest z = acc from stR_no (by omega))
                      by_cases hrest : 0 ≤ rest
                      · have hacc' : 0 ≤ acc := by omega
                        have hst2 : ¬ (z + rest < acc) := by omega
                        clear hst
                        go_wp2
                        go_roundg (gk - 1)
                        case measure => have := HKm.out; omega
                        case rel => exact ⟨m + 1, acc, r, by have := HKm.out; omega, by go_num, ⟨by omega, hrs.out.2.1, by rw [← hrs.out.2.2.1, HSTEP.out, HNEW.out], by omega, by omega⟩, HTq, HQ⟩
                      · clear hst
                        go_wp2
                        go_roundg (gk - 1)
                        case measure => have := HKm.out; omega
                        case rel => exact ⟨m + 1, acc, r, by have := HKm.out; omega, by go_num, ⟨by omega, hrs.out.2.1, by rw [← hrs.out.2.2.1, HSTEP.out, HNEW.out], by omega, by omega⟩, HTq, HQ⟩
                · have HRO := Aside0.mk (show RoS L.length (ceF k pz L s nx) (i + 1) (-1) r from hrs.out.2.1.next (by rw [← hrs.out.2.2.1, show L.length + 1 - m = 0 by omega]; rfl))
                  have im1 : ¬ ((m : Int) ≤ (L.length : Int)) := by omega
                  clear hk hml
                  go_wp2
                  go_roundg (gi - 1)
                  case measure => have := HKi.out; omega
                  case rel => exact ⟨i + 1, r, by have := HKi.out; omega, by go_num, HRO, HTm, HBm⟩
            · have HT3 := Aside0.mk (show OwnT w wr (.slice (some ⟨g, 0, none⟩) (k.hs.length + 1) cap) X (List.replicate (k.hs.length - (j + 1)) (neg L.length) ++ taN k pz L (j + 1)) by
                rw [HTA.out, ← HSJ.out, show roR k pz L s nx = r0 from (show RoS L.length (ceF k pz L s nx) (L.length + 1) (-1) r0 from by rw [show L.length + 1 = i by omega]; exact hro.out).done.symm]
                exact HTi.out)
              have hin : ¬ ((i : Int) ≤ (L.length : Int)) := by omega
              clear hk hil
              go_wp2
              go_roundg (gs - 1)
              case measure => have := HJK.out; omega
              case rel => exact ⟨j + 1, (s : Int) - 1, _, by go_num, ⟨HJK.out.2, by have := HJK.out; omega⟩, HT3, HBi⟩
        · have hgk : j = k.hs.length := by have := hjs.out; omega
          have HT1 := Aside0.mk (show OwnT w wr (.slice (some ⟨g, 0, none⟩) (k.hs.length + 1) cap) X (taL k pz L) from by unfold taL; have := HT.out; rw [hgk, Nat.sub_self] at this; simpa using this)
          have hneg : sI < 0 := by omega
          clear hgk
          go_wp2
          go_ret
          exact ⟨_, rfl, HB.out, X, HT1.out⟩
end Go.Proofs.Ytdippdkneeocfaa
