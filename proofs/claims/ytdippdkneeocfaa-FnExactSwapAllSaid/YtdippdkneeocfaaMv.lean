/- Moves: rows of them, the laws' copies, comparison and marks. -/
import Derived.Test.YtdippdkneeocfaaToS
import Derived.Test.YtdippdkneeocfaaMarkB
import Derived.Test.YtdippdkneeocfaaEq
import Derived.StillTailTactics
import Derived.Still
import Derived.Deep.RegionHeld3
namespace Go.Proofs.Ytdippdkneeocfaa
open Go.RowKit Go.Proofs.YtdippdkneeocfaaW.PrintWords Go.Proofs.YtdippdkneeocfaaW.PrintMore
set_option linter.unusedVariables false
set_option linter.unusedSimpArgs false
set_option maxRecDepth 100000

structure Mv where
  a : Int
  b : Int
deriving DecidableEq
def Mv.cells (x : Mv) : List Value := [.int .i16 x.a, .int .i16 x.b]
def Mv.val (x : Mv) : Value := .agg #[.int .i16 x.a, .int .i16 x.b]
def Mv.ok (x : Mv) : Prop := I16 x.a ∧ I16 x.b
def OkM (L : List Mv) : Prop := ∀ x ∈ L, x.ok
def kMv : Kd Mv := Kd.flat Mv.cells 2 (fun _ => rfl) (fun x u hu => by
  simp only [Mv.cells, List.mem_cons, List.not_mem_nil, or_false] at hu
  rcases hu with rfl | rfl <;> rfl)
theorem kMv_E : kMv.E = [] := rfl
theorem at_mv {xs : List Mv} {w : World} {A : Option Addr} {n : Nat} (h : kMv.C w A n xs) (i : Nat) (hi : i < n) :
    ∃ ad b, A = some ad ∧ Aside0 (xs[i]? = some b) ∧ w.cell? (ad.add (i * 2)) = some (.int .i16 b.a) ∧
      w.cell? ⟨(ad.add (i * 2)).block, (ad.add (i * 2)).off + 1, none⟩ = some (.int .i16 b.b) := by
  have hl : i < xs.length := by have := Kd.C_len h; omega
  obtain ⟨ad, c, e, hc, hK, hcc⟩ := Kd.C_get h xs[i] i (by omega) (by omega)
  rw [Int.toNat_natCast] at hK hcc
  have hx : xs.getD i xs[i] = xs[i] := by simp [List.getD_eq_getElem?_getD, List.getElem?_eq_getElem hl]
  rw [hx] at hK
  have hK' : c = Mv.cells xs[i] := hK
  subst hK'
  have hcc' : ∀ j u, (Mv.cells xs[i])[j]? = some u → w.cell? (ad.add (i * 2 + j)) = some u := hcc
  refine ⟨ad, xs[i], e, ⟨List.getElem?_eq_getElem hl⟩, hcc' 0 _ rfl, ?_⟩
  rw [← addf _ _ _ (by omega)]; exact hcc' _ _ rfl
theorem info_mv : (Try.prog.info? 103).map (fun i => (i.zero, i.size, i.bytes)) = some (some (.agg #[.int .i16 0, .int .i16 0]), 2, 4) := by kernel_rfl
def zMv : Mv := ⟨0, 0⟩
section
variable {ops : Array Oper} {rest : List Oper} {o : Oper} {a : Act} {Q : Exit → Act → World → Prop}
theorem mv_one (b : Mv) : ∀ q, q ∈ Mv.cells b → q.oneCell' = true := by
  intro u hu
  simp only [Mv.cells, List.mem_cons, List.not_mem_nil, or_false] at hu
  rcases hu with rfl | rfl <;> rfl
theorem mv_make {w W : World} (hgd : o.guard = none) {N : Tmp} (hd : o.dst = some N) (x y : Operand) (ho : o.op = .makeSlice 40 x y) (n : Nat) (hx : a.eval x = .int .i64 n) (hy : a.eval y = .int .i64 n)
    (hn : n ≤ 2097152) (HB : Below w.heap.size w W)
    (h : ∀ v1 w1, kMv.R 103 w1 w.heap.size (fun _ => True) v1 (List.replicate n zMv) → Below w.heap.size w w1 → wpList Try.prog ops Q rest (a.put o.dst v1) w1) : wpList Try.prog ops Q (o :: rest) a W := by
  refine Kd.R_make kMv (w0 := w) w.heap.size 103 hgd hd 40 x y ho (n : Int) hx hy Try.underlying40 _ 4 info_mv rfl (by decide) (by decide) zMv (ok := fun _ => True) (okp := fun _ => True) rfl (fun _ h => h) trivial (by omega) (by simp only [Int.toNat_natCast]; omega) HB HB.size ?_
  intro v1 w1 h1 h2 h3 h4
  rw [Int.toNat_natCast] at h1
  exact h v1 w1 h1 h2
theorem mv_store {w W : World} (base : Nat) (hN : o.dst = none) (hgd : o.guard = none) (p x : Operand) (ho : o.op = .store 103 p x) {e : TypeId} {g n cap o' : Nat} (i : Nat) (xs : List Mv) (b : Mv) (ok : Nat → Prop)
    (haddr : a.eval p = .pointer (some ⟨g, o', none⟩)) (hoff : o' = i * 2) (hx : a.eval x = b.val)
    (HO : kMv.R e W base ok (.slice (some ⟨g, 0, none⟩) n cap) xs) (hi : i < n) (HB : Below base w W)
    (h : ∀ w1, kMv.R e w1 base ok (.slice (some ⟨g, 0, none⟩) n cap) (xs.set i b) → Below base w w1 → wpList Try.prog ops Q rest a w1) : wpList Try.prog ops Q (o :: rest) a W := by
  obtain ⟨c, hcl, hM, hcc, _⟩ := Kd.R_elem HO zMv (i : Int) (by omega) (by omega)
  have hcl8 : c.length = 2 := hcl
  refine Kd.R_store kMv (w0 := w) base hN hgd 103 p x ho e (i : Int) 0 xs b b.val (Mv.cells b) c ok (fun k => ok k ∧ k ≠ g) haddr (by simp only [Int.toNat_natCast]; exact hoff) hx rfl (by rw [show (Mv.cells b).length = 2 from rfl]; kernel_rfl) (mv_one b) HO (by omega) (by omega) hcl (fun j u hu => by have := hcc j u hu; simpa using this) (by show 0 + 2 ≤ 2; omega) ?_ (fun k hk => hk) HB ?_
  · show _ = Mv.cells b
    rw [List.drop_of_length_le (by show c.length ≤ 0 + 2; omega)]
    simp
  · intro w1 h1 h2 h3
    rw [Int.toNat_natCast] at h1
    exact h w1 h1 h2
end
set_option maxHeartbeats 1000000 in
theorem toMove_c (b : Mv) (w : World) : Calls Try.prog 106 #[b.val] w (Ret w b.val) := by
  simp only [Mv.val]
  go_enter Try.func106, Try.ntmps106
  go_wp2
  refine bodyPost_ret (v := .agg #[.int .i16 b.a, .int .i16 b.b]) (by simp [results, Try.results106, go_sem]) rfl ⟨rfl, ?_⟩
  repeat (refine Below.setCell ?_ (by first | (simp; done) | (simp; omega)) _)
  exact balloc (balloc (balloc (Below.refl _ _) _) _) _
theorem szMoveS_lt (A : Option Addr) (c : Nat) (n : Nat) (left : Int) (w : World) (hn : n ≤ 9223372036854775807) (h0 : 0 ≤ left) (h1 : left ≤ 1048576) (h : left < (n : Int)) :
    Calls Try.prog 34 #[.slice A n c, .int .i64 left] w (RetS w (.int .i64 (-1))) := by
  go_enter Try.func34, Try.ntmps34
  go_wp2
  all_goals (go_ret; exact ⟨rfl, rfl⟩)
theorem szMoveS_ge (A : Option Addr) (c : Nat) (n : Nat) (left : Int) (w : World) (hn : n ≤ 9223372036854775807) (h0 : 0 ≤ left) (h1 : left ≤ 1048576) (h : ¬ left < (n : Int)) :
    Calls Try.prog 34 #[.slice A n c, .int .i64 left] w (RetS w (.int .i64 (left - n))) := by
  go_enter Try.func34, Try.ntmps34
  go_wp2
  all_goals (go_ret; exact ⟨rfl, rfl⟩)
def NewMv (w : World) (L : List Mv) (v : Value) (w' : World) : Prop := kMv.R 103 w' w.heap.size (fun _ => True) v L
set_option maxHeartbeats 1000000 in
theorem toMoveS_c (A : Option Addr) (c : Nat) (L : List Mv) (w : World) (hL : kMv.C w A L.length L) (hn : L.length ≤ 2097152) :
    Calls Try.prog 36 #[.slice A L.length c] w (RetQ w (NewMv w L)) := by
  have hm := Kd.C_max hL
  have HL := Aside0.mk hL
  clear hL
  go_enter Try.func36, Try.ntmps36
  go_wp2_with (refine mv_make (w := w) rfl (N := 7) rfl (.tmp 6) (.tmp 6) rfl L.length rfl rfl hn (Below.refl _ _) ?_; intro v1 w1 hR hB; have HR := Aside0.mk hR; have HB := Aside0.mk hB; clear hR hB)
  go_loopg [4] L.length (fun gk v wr => ∃ k : Nat, k + gk = L.length ∧ v = .int .i64 k ∧ Aside0 (kMv.R 103 wr w.heap.size (fun _ => True) v1 (L.take k ++ List.replicate (L.length - k) zMv)) ∧ Aside0 (Below w.heap.size w wr))
  case atStart => exact ⟨0, by omega, rfl, ⟨by simpa using HR.out⟩, HB⟩
  case round =>
    clear HR HB
    obtain ⟨k, hk, rfl, HR, HB⟩ := hrel
    have HK := Aside0.mk hk
    by_cases hlt : k < L.length
    · obtain ⟨ad, b, rfl, hbk, hx0, hx1⟩ := at_mv (Kd.C_below HL.out HB.out) k (by omega)
      obtain ⟨g, cap, e1, gb, gl, cl, HG⟩ := Kd.R_form HR.out (by simp; omega)
      have hlen : (L.take k ++ List.replicate (L.length - k) zMv).length = L.length := by simp; omega
      rw [hlen] at e1
      subst e1
      clear hk hlen gb gl cl HG
      go_wp2_with (first | (go_at_call 106; refine (toMove_c b wr).mono ?_; rintro _ w2 ⟨rfl, hb2⟩; have HR2 := Aside0.mk (Kd.R_below HR.out hb2); have HB2 := Aside0.mk (bstep HB.out hb2); clear hb2) | (refine mv_store (w := w) w.heap.size rfl rfl (.tmp 21) (.tmp 20) rfl k _ b (fun _ => True) rfl (by omega) rfl HR2.out hlt HB2.out ?_; intro w3 hR3 hB3; have HR3 := Aside0.mk hR3; have HB3 := Aside0.mk hB3; clear hR3 hB3))
      go_roundg (gk - 1)
      case measure => have := HK.out; omega
      case rel => exact ⟨k + 1, by have := HK.out; omega, by go_num, ⟨by have := HR3.out; rwa [set_next hbk.out] at this⟩, HB3⟩
    · have hkl : k = L.length := by omega
      have HR1 := Aside0.mk (show kMv.R 103 wr w.heap.size (fun _ => True) v1 L by have h1 := HR.out; rw [hkl] at h1; simpa using h1)
      clear hk hkl
      go_wp2
      go_ret
      exact ⟨v1, rfl, HB.out, HR1.out⟩
set_option maxHeartbeats 2000000 in
theorem eqMove_c (a b : Mv) (w : World) : Calls Try.prog 111 #[a.val, b.val] w (Ret w (.bool (decide (a = b)))) := by
  simp only [Mv.val]
  go_enter Try.func111, Try.ntmps111
  go_wp2
  all_goals (go_ret; refine ⟨ret_bool ?_, balloc (balloc (Below.refl _ _) _) _⟩)
  all_goals (simp only [bne_iff_ne, bne_eq_false_iff_eq, Bool.not_eq_true', decide_eq_false_iff_not, ne_eq] at *; symm; first | (rw [decide_eq_true_iff]; cases a; cases b; simp_all; done) | (rw [decide_eq_false_iff_not]; rintro rfl; simp_all))
set_option maxHeartbeats 2000000 in
theorem eqMoveS_c (A A' : Option Addr) (c c' : Nat) (L L' : List Mv) (w : World) (hL : kMv.C w A L.length L) (hL' : kMv.C w A' L'.length L') : Calls Try.prog 38 #[.slice A L.length c, .slice A' L'.length c'] w (Ret w (.bool (decide (L = L')))) := by
  have hm := Kd.C_max hL
  have hm' := Kd.C_max hL'
  have HL := Aside0.mk hL
  have HL' := Aside0.mk hL'
  clear hL hL'
  by_cases hll : L.length = L'.length
  · have HLL := Aside0.mk hll
    have hb0 : ((L.length : Int) != (L'.length : Int)) = false := by simp [hll]
    have hb0' : (L.length != L'.length) = false := by simp [hll]
    clear hll
    go_enter Try.func38, Try.ntmps38
    go_wp2
    go_loopg [5] L.length (fun gk v wr => ∃ k : Nat, k + gk = L.length ∧ v = .int .i64 k ∧ Aside0 (L.take k = L'.take k) ∧ Aside0 (Below w.heap.size w wr))
    case atStart => exact ⟨0, by omega, rfl, ⟨by simp⟩, ⟨Below.refl _ _⟩⟩
    case round =>
      clear hb0 hb0'
      obtain ⟨k, hk, rfl, hp, hb⟩ := hrel
      have HK := Aside0.mk hk
      by_cases hlt : k < L.length
      · have hlt' : k < L'.length := by have := HLL.out; omega
        obtain ⟨ad, b, rfl, hbk, x0, x1⟩ := at_mv (Kd.C_below HL.out hb.out) k (by omega)
        obtain ⟨ad', b', rfl, hbk', y0, y1⟩ := at_mv (Kd.C_below HL'.out hb.out) k (by omega)
        clear hk
        have i0 : (0 : Int) ≤ (k : Int) := by omega
        have i1 : (k : Int) < (L.length : Int) := by omega
        have i2 : (k : Int) < (L'.length : Int) := by omega
        have HE := Aside0.mk (eqMove_c b b')
        by_cases hbb : b = b'
        · have HD := Aside0.mk (show decide (b = b') = true by simp [hbb])
          have HN := Aside0.mk (show L.take (k + 1) = L'.take (k + 1) by rw [take_snoc hbk.out, take_snoc hbk'.out, hp.out, hbb])
          rw [HD.out] at HE
          clear hbb HD
          go_wp2_with fail
          go_still_tail 8, (by kernel_rfl)
          go_wp2_with (go_at_call 111; refine (HE.out _).mono ?_; rintro _ w1 ⟨rfl, hb1⟩)
          go_roundg (gk - 1)
          case measure => have := HK.out; omega
          case rel => exact ⟨k + 1, by have := HK.out; omega, by go_num, HN, ⟨bstep (bdrew hb.out) hb1⟩⟩
        · have HD := Aside0.mk (show decide (b = b') = false by simp [hbb])
          have HN := Aside0.mk (show L ≠ L' from fun h => hbb (by have h1 := hbk.out; rw [h, hbk'.out] at h1; injection h1 with h1; exact h1.symm))
          rw [HD.out] at HE
          clear hbb HD
          go_wp2_with fail
          go_still_tail 8, (by kernel_rfl)
          go_wp2_with (go_at_call 111; refine (HE.out _).mono ?_; rintro _ w1 ⟨rfl, hb1⟩)
          go_ret
          exact ⟨ret_bool (decide_eq_false HN.out).symm, bstep (bdrew hb.out) hb1⟩
      · have HE := Aside0.mk (show L = L' by have h1 := hp.out; have h2 := HLL.out; rwa [List.take_of_length_le (by omega), List.take_of_length_le (by omega)] at h1)
        clear hk
        go_wp2
        go_ret
        exact ⟨ret_bool (decide_eq_true HE.out).symm, hb.out⟩
  · have hb0 : ((L.length : Int) != (L'.length : Int)) = true := by simp; omega
    have hb0' : (L.length != L'.length) = true := by simpa using hll
    have HN := Aside0.mk (show L ≠ L' from fun h => hll (by rw [h]))
    clear hll
    go_enter Try.func38, Try.ntmps38
    go_wp2
    all_goals (go_ret; exact ⟨ret_bool (decide_eq_false HN.out).symm, Below.refl _ _⟩)
def markV (m : Int) : Mv := ⟨IntKind.i16.wrap m, IntKind.i16.wrap (m + 1)⟩
def markM (m : Int) : Nat → List Mv
  | 0 => []
  | n + 1 => markV m :: markM (m + 2) n
theorem markM_len (m : Int) (n : Nat) : (markM m n).length = n := by
  induction n generalizing m with
  | zero => rfl
  | succ n ih => simp [markM, ih]
theorem markM_at (m : Int) {n i : Nat} (h : i < n) : (markM m n)[i]? = some (markV (m + 2 * (i : Int))) := by
  induction n generalizing m i with
  | zero => omega
  | succ n ih =>
    rw [markM]
    cases i with
    | zero => simp
    | succ i =>
      rw [List.getElem?_cons_succ, ih (m + 2) (by omega)]
      congr 2
      omega
theorem markM_snoc (m : Int) (n : Nat) : markM m (n + 1) = markM m n ++ [markV (m + 2 * (n : Int))] := by
  induction n generalizing m with
  | zero => simp [markM]
  | succ n ih =>
    rw [markM, ih (m + 2), markM]
    simp only [List.cons_append, List.cons.injEq, true_and]
    congr 3
    omega
theorem markM_set {L : List Mv} {m : Int} {k : Nat} (h : k < L.length) : (markM m k ++ L.drop k).set k (markV (m + 2 * (k : Int))) = markM m (k + 1) ++ L.drop (k + 1) := by
  have hl : (markM m k).length = k := markM_len m k
  rw [List.set_append_right _ _ (by omega), hl, Nat.sub_self, markM_snoc, List.drop_eq_getElem_cons h, List.set_cons_zero]
  simp
/-- All cells of element k are written. -/
theorem own_put2 {w0 W : World} {g n cap : Nat} {xs : List Mv} {k : Nat} (b : Mv) (h : Own kMv 103 w0 W (.slice (some ⟨g, 0, none⟩) n cap) xs) (hk : k < n) :
    Own kMv 103 w0 (W.setCells g (k * 2) (Mv.cells b)) (.slice (some ⟨g, 0, none⟩) n cap) (xs.set k b) ∧ W.grownBy (W.setCells g (k * 2) (Mv.cells b)) (some g) := by
  obtain ⟨c, hcl, _, hcc, _⟩ := Kd.R_elem h zMv (k : Int) (by omega) (by omega)
  have hcl8 : c.length = 2 := hcl
  have := Kd.R_seg (okp := fun _ => False) h (k : Int) (by omega) (by omega) hcl (seg := Mv.cells b) (j := 0) (by simpa using hcc) (by show 0 + 2 ≤ 2; omega) (x' := b) (by
    show _ = Mv.cells b
    rw [List.drop_of_length_le (by show c.length ≤ 0 + 2; omega)]
    simp) (fun _ h => h.elim)
  rw [Int.toNat_natCast] at this
  exact this
theorem own_cells2 {w0 W : World} {g n cap : Nat} {xs : List Mv} {k : Nat} (h : Own kMv 103 w0 W (.slice (some ⟨g, 0, none⟩) n cap) xs) (hk : k < n) :
    ∃ c0 c1, W.cell? ⟨g, k * 2, none⟩ = some c0 ∧ W.cell? ⟨g, k * 2 + 1, none⟩ = some c1 ∧ W.frozen? ⟨g, k * 2, none⟩ = false ∧ W.frozen? ⟨g, k * 2 + 1, none⟩ = false := by
  obtain ⟨c, hcl, _, hcc, hf⟩ := Kd.R_elem h zMv (k : Int) (by omega) (by omega)
  rw [Int.toNat_natCast] at hcc hf
  have hcl8 : c.length = 2 := hcl
  match c, hcl8 with
  | [c0, c1], _ => exact ⟨c0, c1, hcc 0 _ rfl, hcc 1 _ rfl, hf 0, hf 1⟩
set_option maxHeartbeats 8000000 in
theorem markMoveS_c (A : Option Addr) (c : Nat) (L : List Mv) (m : Int) (w0 w : World) (hO : Own kMv 103 w0 w (.slice A L.length c) L) (h0 : 0 ≤ m) (h1 : m ≤ 1000000000) (hn : L.length ≤ 2097152) :
    Calls Try.prog 40 #[.slice A L.length c, .int .i64 m] w (Marked kMv 103 w0 w (.slice A L.length c) (markM m L.length) (m + 2 * L.length)) := by
  have HO := Aside0.mk hO
  clear hO
  go_enter Try.func40, Try.ntmps40
  go_wp2
  go_loopg [1, 5] L.length (fun gk u v wr => ∃ k : Nat, ∃ q : Int, k + gk = L.length ∧ u = .int .i64 q ∧ v = .int .i64 k ∧ Aside0 (q = m + 2 * (k : Int)) ∧ Aside0 (Own kMv 103 w0 wr (.slice A L.length c) (markM m k ++ L.drop k)) ∧ Aside0 (w.grownBy wr (Value.slice A L.length c).ownBlock))
  case atStart => exact ⟨0, m, by omega, rfl, rfl, ⟨by omega⟩, ⟨by simpa [markM] using HO.out⟩, ⟨World.grownBy.refl _ _⟩⟩
  case round =>
    clear HO
    obtain ⟨k, q, hk, rfl, rfl, HQ, HR, HG⟩ := hrel
    have HK := Aside0.mk hk
    by_cases hlt : k < L.length
    · have hlen : (markM m k ++ L.drop k).length = L.length := by simp [markM_len]; omega
      obtain ⟨g, cap, e1, gb, gl, cl, hcl⟩ := Kd.R_form HR.out (by rw [hlen]; omega)
      rw [hlen] at e1
      injection e1 with e1 _ e2
      subst e1 e2
      obtain ⟨c0, c1, d0, d1, f0, f1⟩ := own_cells2 HR.out hlt
      obtain ⟨hp, hg⟩ := own_put2 (markV q) HR.out hlt
      have HP := Aside0.mk (show Own kMv 103 w0 (wr.setCells g (k * 2) (Mv.cells (markV q))) (.slice (some ⟨g, 0, none⟩) L.length c) (markM m (k + 1) ++ L.drop (k + 1)) by
        have hq := HQ.out
        rw [hq] at hp ⊢
        rw [markM_set hlt] at hp; exact hp)
      have HGP := Aside0.mk (show w.grownBy (wr.setCells g (k * 2) (Mv.cells (markV q))) (Value.slice (some ⟨g, 0, none⟩) L.length c).ownBlock from World.grownBy.trans HG.out hg)
      simp only [markV, Mv.cells, World.setCells, Nat.add_assoc, Nat.reduceAdd] at HP HGP
      have i0 : (0 : Int) ≤ (k : Int) := by omega
      have i1 : (k : Int) < (L.length : Int) := by omega
      have i2 : 0 ≤ q := by have := HQ.out; omega
      have i3 : q ≤ 1100000000 := by have := HQ.out; omega
      clear hk hlen gb cl hcl hp hg HR HG
      go_wp2
      go_roundg (gk - 1)
      case measure => have := HK.out; omega
      case rel => exact ⟨k + 1, q + 2, by have := HK.out; omega, by go_num, by go_num, ⟨by rw [HQ.out]; omega⟩, HP, HGP⟩
    · have hkl : k = L.length := by omega
      have HE := Aside0.mk (show Own kMv 103 w0 wr (.slice A L.length c) (markM m L.length) by have h1 := HR.out; rw [hkl] at h1; simpa using h1)
      have HN := Aside0.mk (show q = m + 2 * L.length by rw [HQ.out]; omega)
      clear hk hkl
      go_wp2
      go_ret
      exact ⟨ret_int HN.out, HE.out, HG.out⟩
end Go.Proofs.Ytdippdkneeocfaa
