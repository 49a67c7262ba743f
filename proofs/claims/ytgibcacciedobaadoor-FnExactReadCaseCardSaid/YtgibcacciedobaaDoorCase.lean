/- Cases: the laws' copies, comparisons and marks. -/
import Derived.Test.YtgibcacciedobaaDoorScal
import Derived.Test.YtgibcacciedobaaDoorBook
import Derived.StillTailTactics
import Derived.Still
import Derived.Deep.QuietTactic
import Derived.BigQuiet
namespace Go.Proofs.YtgibcacciedobaaDoor
open Go.RowKit Go.Proofs.YtgibcacciedobaaDoorW.PrintWords Go.Proofs.YtgibcacciedobaaDoorW.PrintMore
set_option linter.unusedVariables false
set_option linter.unusedSimpArgs false
set_option maxRecDepth 100000

def OkI16 (L : List Int) : Prop := ∀ x, x ∈ L → I16 x
def NewI16 (w : World) (L : List Int) (v : Value) (w' : World) : Prop := (Kd.int .i16).R 22 w' w.heap.size (fun _ => True) v L
theorem NewI16.open {w w' : World} {L : List Int} {v : Value} (h : NewI16 w L v w') : ∃ A c, v = .slice A L.length c ∧ L.length ≤ c ∧ Aside0 ((Kd.int .i16).C w' A L.length L) := by
  obtain ⟨A, c, h1, h2, h3⟩ := Kd.R_reads h
  exact ⟨A, c, h1, h2, ⟨h3⟩⟩
theorem infoI16 : (Tryd.prog.info? 22).map (fun i => (i.zero, i.size, i.bytes)) = some (some (.int .i16 0), 1, 2) := by kernel_rfl
theorem makeI16 {ops : Array Oper} {rest : List Oper} {o : Oper} {a : Act} {Q : Exit → Act → World → Prop} {w W : World} (hgd : o.guard = none) {N : Tmp} (hd : o.dst = some N) (x y : Operand) (ho : o.op = .makeSlice 49 x y) (n : Nat) (hx : a.eval x = .int .i64 n) (hy : a.eval y = .int .i64 n)
    (hn : n ≤ 2097152) (HB : Below w.heap.size w W)
    (h : ∀ v1 w1, (Kd.int .i16).R 22 w1 w.heap.size (fun _ => True) v1 (List.replicate n 0) → Below w.heap.size w w1 → wpList Tryd.prog ops Q rest (a.put o.dst v1) w1) : wpList Tryd.prog ops Q (o :: rest) a W := by
  refine Kd.R_make (Kd.int .i16) (w0 := w) w.heap.size 22 hgd hd 49 x y ho (n : Int) hx hy Tryd.underlying49 _ 2 infoI16 rfl (by decide) (by decide) (0 : Int) (ok := fun _ => True) (okp := fun _ => True) rfl (fun _ h => h) trivial (by omega) (by simp only [Int.toNat_natCast]; omega) HB HB.size ?_
  intro v1 w1 h1 h2 h3 h4
  rw [Int.toNat_natCast] at h1
  exact h v1 w1 h1 h2
set_option maxHeartbeats 1000000 in
theorem toInt16S_c (A : Option Addr) (c : Nat) (L : List Int) (w : World) (hL : (Kd.int .i16).C w A L.length L) (hn : L.length ≤ 2097152) :
    Calls Tryd.prog 66 #[.slice A L.length c] w (RetQ w (NewI16 w L)) := by
  have hm := Kd.C_max hL
  have HL := Aside0.mk hL
  clear hL
  go_enter Tryd.func66, Tryd.ntmps66
  go_wp2_with (refine makeI16 (w := w) rfl (N := 7) rfl (.tmp 6) (.tmp 6) rfl L.length rfl rfl hn (Below.refl _ _) ?_; intro v1 w1 hR hB; have HR := Aside0.mk hR; have HB := Aside0.mk hB; clear hR hB)
  go_loopg [4] L.length (fun gk v wr => ∃ k : Nat, k + gk = L.length ∧ v = .int .i64 k ∧ Aside0 ((Kd.int .i16).R 22 wr w.heap.size (fun _ => True) v1 (L.take k ++ List.replicate (L.length - k) 0)) ∧ Aside0 (Below w.heap.size w wr))
  case atStart => exact ⟨0, by omega, rfl, ⟨by simpa using HR.out⟩, HB⟩
  case round =>
    clear HR HB
    obtain ⟨k, hk, rfl, HR, HB⟩ := hrel
    have HK := Aside0.mk hk
    by_cases hlt : k < L.length
    · obtain ⟨ad, x, rfl, hbk, hx0⟩ := at_int' (Kd.C_below HL.out HB.out) k (by omega)
      obtain ⟨g, cap, e1, gb, gl, cl, HG⟩ := Kd.R_form HR.out (by simp; omega)
      have hlen : (L.take k ++ List.replicate (L.length - k) (0 : Int)).length = L.length := by simp; omega
      rw [hlen] at e1
      subst e1
      obtain ⟨hc, hf⟩ := Kd.R_celln (0 : Int) HR.out (k : Int) (by omega) (by omega)
      have HP := Aside0.mk (Kd.R_putn HR.out (k : Int) x)
      rw [Int.toNat_natCast] at hc hf HP
      rw [set_next hbk.out] at HP
      have HBP := Aside0.mk (Below.setCell HB.out (p := ⟨g, k, none⟩) gb (.int .i16 x))
      have i0 : (0 : Int) ≤ (k : Int) := by omega
      have i1 : (k : Int) < (L.length : Int) := by omega
      clear hk hlen gb cl HG
      go_wp2
      go_roundg (gk - 1)
      case measure => have := HK.out; omega
      case rel => exact ⟨k + 1, by have := HK.out; omega, by go_num, HP, HBP⟩
    · have hkl : k = L.length := by omega
      have HR1 := Aside0.mk (show (Kd.int .i16).R 22 wr w.heap.size (fun _ => True) v1 L by have h1 := HR.out; rw [hkl] at h1; simpa using h1)
      clear hk hkl
      go_wp2
      go_ret
      exact ⟨v1, rfl, HB.out, HR1.out⟩
set_option maxHeartbeats 2000000 in
theorem eqInt16S_c (A A' : Option Addr) (c c' : Nat) (L L' : List Int) (w : World) (hL : (Kd.int .i16).C w A L.length L) (hL' : (Kd.int .i16).C w A' L'.length L') : Calls Tryd.prog 69 #[.slice A L.length c, .slice A' L'.length c'] w (Ret w (.bool (decide (L = L')))) := by
  have hm := Kd.C_max hL
  have hm' := Kd.C_max hL'
  have HL := Aside0.mk hL
  have HL' := Aside0.mk hL'
  clear hL hL'
  by_cases hll : L.length = L'.length
  · have HLL := Aside0.mk hll
    have hb0 : ((L.length : Int) != (L'.length : Int)) = false := by simp [hll]
    have hb0' : (L.length != L'.length) = false := by simp [hll]
    clear hll
    go_enter Tryd.func69, Tryd.ntmps69
    go_wp2
    go_loopg [5] L.length (fun gk v wr => ∃ k : Nat, k + gk = L.length ∧ v = .int .i64 k ∧ Aside0 (L.take k = L'.take k) ∧ Aside0 (Below w.heap.size w wr))
    case atStart => exact ⟨0, by omega, rfl, ⟨by simp⟩, ⟨Below.refl _ _⟩⟩
    case round =>
      clear hb0 hb0'
      obtain ⟨k, hk, rfl, hp, hb⟩ := hrel
      have HK := Aside0.mk hk
      by_cases hlt : k < L.length
      · have hlt' : k < L'.length := by have := HLL.out; omega
        obtain ⟨ad, x, rfl, hbk, x0⟩ := at_int' (Kd.C_below HL.out hb.out) k (by omega)
        obtain ⟨ad', y, rfl, hbk', y0⟩ := at_int' (Kd.C_below HL'.out hb.out) k (by omega)
        clear hk
        have i0 : (0 : Int) ≤ (k : Int) := by omega
        have i1 : (k : Int) < (L.length : Int) := by omega
        have i2 : (k : Int) < (L'.length : Int) := by omega
        by_cases hxy : x = y
        · have HN := Aside0.mk (show L.take (k + 1) = L'.take (k + 1) by rw [take_snoc hbk.out, take_snoc hbk'.out, hp.out, hxy])
          have hd : (x != y) = false := by simp [hxy]
          clear hxy
          go_wp2_with fail
          go_quiet (fail)
          go_wp2
          go_roundg (gk - 1)
          case measure => have := HK.out; omega
          case rel => exact ⟨k + 1, by have := HK.out; omega, by go_num, HN, ⟨bdrewN hb.out _⟩⟩
        · have HN := Aside0.mk (show L ≠ L' from fun h => hxy (by have h1 := hbk.out; rw [h, hbk'.out] at h1; injection h1 with h1; exact h1.symm))
          have hd : (x != y) = true := by simpa using hxy
          clear hxy
          go_wp2_with fail
          go_quiet (fail)
          go_wp2
          go_ret
          exact ⟨ret_bool (decide_eq_false HN.out).symm, bdrewN hb.out _⟩
      · have HE := Aside0.mk (show L = L' by have h1 := hp.out; have h2 := HLL.out; rwa [List.take_of_length_le (by omega), List.take_of_length_le (by omega)] at h1)
        clear hk
        go_wp2
        go_ret
        exact ⟨ret_bool (decide_eq_true HE.out).symm, hb.out⟩
  · have hb0 : ((L.length : Int) != (L'.length : Int)) = true := by simp; omega
    have hb0' : (L.length != L'.length) = true := by simpa using hll
    have HN := Aside0.mk (show L ≠ L' from fun h => hll (by rw [h]))
    clear hll
    go_enter Tryd.func69, Tryd.ntmps69
    go_wp2
    all_goals (go_ret; exact ⟨ret_bool (decide_eq_false HN.out).symm, Below.refl _ _⟩)
set_option maxHeartbeats 1000000 in
theorem markInt16S_c (A : Option Addr) (c : Nat) (L : List Int) (m : Int) (w0 w : World) (hO : Own (Kd.int .i16) 22 w0 w (.slice A L.length c) L) (h0 : 0 ≤ m) (h1 : m ≤ 1000000000) (hn : L.length ≤ 2097152) :
    Calls Tryd.prog 76 #[.slice A L.length c, .int .i64 m] w (Marked (Kd.int .i16) 22 w0 w (.slice A L.length c) ((upI m L.length).map (fun x => (IntKind.i16.wrap (x)))) (m + L.length)) := by
  have HO := Aside0.mk hO
  clear hO
  go_enter Tryd.func76, Tryd.ntmps76
  go_wp2
  go_loopg [1, 5] L.length (fun gk u v wr => ∃ k : Nat, k + gk = L.length ∧ u = .int .i64 (m + k) ∧ v = .int .i64 k ∧ Aside0 (Own (Kd.int .i16) 22 w0 wr (.slice A L.length c) ((upI m k).map (fun x => (IntKind.i16.wrap (x))) ++ L.drop k)) ∧ Aside0 (w.grownBy wr (Value.slice A L.length c).ownBlock))
  case atStart => exact ⟨0, by omega, by simp, rfl, ⟨by simpa [upI] using HO.out⟩, ⟨World.grownBy.refl _ _⟩⟩
  case round =>
    clear HO
    obtain ⟨k, hk, rfl, rfl, HR, HG⟩ := hrel
    have HK := Aside0.mk hk
    by_cases hlt : k < L.length
    · have hlen : ((upI m k).map (fun x => (IntKind.i16.wrap (x))) ++ L.drop k).length = L.length := by simp [upI_len]; omega
      obtain ⟨g, cap, e1, gb, gl, cl, hcl⟩ := Kd.R_form HR.out (by rw [hlen]; omega)
      rw [hlen] at e1
      injection e1 with e1 _ e2
      subst e1 e2
      obtain ⟨hc, hf⟩ := Kd.R_celln (0 : Int) HR.out (k : Int) (by omega) (by omega)
      have hp := Kd.R_putn HR.out (k : Int) ((IntKind.i16.wrap (m + (k : Int))))
      rw [Int.toNat_natCast] at hc hf hp
      have HP := Aside0.mk (show Own (Kd.int .i16) 22 w0 (wr.setCell ⟨g, k, none⟩ (.int .i16 ((IntKind.i16.wrap (m + (k : Int)))))) (.slice (some ⟨g, 0, none⟩) L.length c) ((upI m (k + 1)).map (fun x => (IntKind.i16.wrap (x))) ++ L.drop (k + 1)) by
        rw [upM_set (m := m) (fun x => (IntKind.i16.wrap (x))) hlt] at hp; exact hp)
      have HGP := Aside0.mk (show w.grownBy (wr.setCell ⟨g, k, none⟩ (.int .i16 ((IntKind.i16.wrap (m + (k : Int)))))) (Value.slice (some ⟨g, 0, none⟩) L.length c).ownBlock from World.grownBy.trans HG.out ⟨rfl, rfl, rfl, by simp, fun i _ hi => Below.heap_setCell wr ⟨g, k, none⟩ _ i (fun e => hi (by rw [e]; rfl))⟩)
      have i0 : (0 : Int) ≤ (k : Int) := by omega
      have i1 : (k : Int) < (L.length : Int) := by omega
      clear hk hlen gb cl hcl hp HR HG
      go_wp2
      go_roundg (gk - 1)
      case measure => have := HK.out; omega
      case rel => exact ⟨k + 1, by have := HK.out; omega, by go_num, by go_num, HP, HGP⟩
    · have hkl : k = L.length := by omega
      have HE := Aside0.mk (show Own (Kd.int .i16) 22 w0 wr (.slice A L.length c) ((upI m L.length).map (fun x => (IntKind.i16.wrap (x)))) by have h1 := HR.out; rw [hkl] at h1; simpa using h1)
      have HN := Aside0.mk (show (m + (k : Int)) = m + L.length by omega)
      clear hk hkl
      go_wp2
      go_ret
      exact ⟨ret_int HN.out, HE.out, HG.out⟩
/-- A case of shelves. -/
structure Cs where
  wd : Int
  ld : Int
  hs : List Int
deriving DecidableEq
def Cs.ok (k : Cs) : Prop := I16 k.wd ∧ (-2147483648 ≤ k.ld ∧ k.ld ≤ 2147483647) ∧ OkI16 k.hs
def Cs.val (k : Cs) (A : Option Addr) (c : Nat) : Value := .agg #[.int .i16 k.wd, .int .i32 k.ld, .slice A k.hs.length c]
def Cs.cells (k : Cs) (A : Option Addr) (c : Nat) : Array Value := #[.int .i16 k.wd, .int .i32 k.ld, .slice A k.hs.length c]
/-- A case lies at an address. -/
structure CsAt (w : World) (a : Addr) (k : Cs) (A : Option Addr) (c : Nat) : Prop where
  c0 : w.cell? a = some (.int .i16 k.wd)
  c1 : w.cell? ⟨a.block, a.off + 1, none⟩ = some (.int .i32 k.ld)
  c2 : w.cell? ⟨a.block, a.off + 2, none⟩ = some (.slice A k.hs.length c)
theorem CsAt.lt {w : World} {a : Addr} {k : Cs} {A : Option Addr} {c : Nat} (h : CsAt w a k A c) : a.block < w.heap.size := World.block_lt_of_cell? w a h.c0
theorem CsAt.below {w w1 : World} {a : Addr} {k : Cs} {A : Option Addr} {c : Nat} (h : CsAt w a k A c) (hb : Below w.heap.size w w1) : CsAt w1 a k A c :=
  ⟨(hb.cell (p := a) h.lt).trans h.c0, (hb.cell (p := ⟨a.block, a.off + 1, none⟩) h.lt).trans h.c1, (hb.cell (p := ⟨a.block, a.off + 2, none⟩) h.lt).trans h.c2⟩
theorem CsAt.box (w : World) (k : Cs) (A : Option Addr) (c : Nat) (t : TypeId) : CsAt (w.alloc (.cells #[.int .i16 k.wd, .int .i32 k.ld, .slice A k.hs.length c] t)) ⟨w.heap.size, 0, none⟩ k A c :=
  ⟨(blk_cell (blk_new w _) 0).trans rfl, (blk_cell (blk_new w _) 1).trans rfl, (blk_cell (blk_new w _) 2).trans rfl⟩
theorem szI16_lt (A : Option Addr) (c : Nat) (n : Nat) (left : Int) (w : World) (hn : n ≤ 9223372036854775807) (h0 : 0 ≤ left) (h1 : left ≤ 1048576) (h : left < (n : Int)) :
    Calls Tryd.prog 63 #[.slice A n c, .int .i64 left] w (RetS w (.int .i64 (-1))) := by
  go_enter Tryd.func63, Tryd.ntmps63
  go_wp2
  all_goals (go_ret; exact ⟨rfl, rfl⟩)
theorem szI16_ge (A : Option Addr) (c : Nat) (n : Nat) (left : Int) (w : World) (hn : n ≤ 9223372036854775807) (h0 : 0 ≤ left) (h1 : left ≤ 1048576) (h : ¬ left < (n : Int)) :
    Calls Tryd.prog 63 #[.slice A n c, .int .i64 left] w (RetS w (.int .i64 (left - n))) := by
  go_enter Tryd.func63, Tryd.ntmps63
  go_wp2
  all_goals (go_ret; exact ⟨rfl, rfl⟩)
theorem szCase_lt (k : Cs) (A : Option Addr) (c : Nat) (left : Int) (w : World) (hn : k.hs.length ≤ 9223372036854775807) (h0 : 0 ≤ left) (h1 : left ≤ 1048576) (h : left < (k.hs.length : Int)) :
    Calls Tryd.prog 30 #[k.val A c, .int .i64 left] w (Ret w (.int .i64 (-1))) := by
  have HS := Aside0.mk (fun W => szI16_lt A c k.hs.length left W hn h0 h1 h)
  clear h hn
  simp only [Cs.val]
  go_enter Tryd.func30, Tryd.ntmps30
  go_wp2_with (refine (HS.out _).mono ?_; rintro _ w1 ⟨rfl, rfl⟩)
  all_goals (go_ret; exact ⟨rfl, balloc (Below.refl _ _) _⟩)
theorem szCase_ge (k : Cs) (A : Option Addr) (c : Nat) (left : Int) (w : World) (hn : k.hs.length ≤ 9223372036854775807) (h0 : 0 ≤ left) (h1 : left ≤ 1048576) (h : ¬ left < (k.hs.length : Int)) :
    Calls Tryd.prog 30 #[k.val A c, .int .i64 left] w (Ret w (.int .i64 (left - k.hs.length))) := by
  have HS := Aside0.mk (fun W => szI16_ge A c k.hs.length left W hn h0 h1 h)
  have h2 : ¬ (left - (k.hs.length : Int) < 0) := by omega
  clear h hn
  simp only [Cs.val]
  go_enter Tryd.func30, Tryd.ntmps30
  go_wp2_with (refine (HS.out _).mono ?_; rintro _ w1 ⟨rfl, rfl⟩)
  all_goals (go_ret; exact ⟨rfl, balloc (Below.refl _ _) _⟩)
/-- A store below what is new. -/
theorem new_far {α : Type} {d : Kd α} {e : Nat} {w : World} {B : Nat} {v : Value} {L : List α} (h : d.R e w B (fun _ => True) v L) {p : Addr} (hp : p.block < B) (u : Value) : d.R e (w.setCell p u) B (fun _ => True) v L :=
  Kd.R_mono (Kd.R_far (ok := fun k => B ≤ k) (Kd.R_mono (Kd.R_bound h) (fun k hk => hk.2.1)) (fun k hk => by omega) u) (fun _ _ => trivial)
theorem new_alloc {α : Type} {d : Kd α} {e : Nat} {w : World} {B : Nat} {v : Value} {L : List α} (h : d.R e w B (fun _ => True) v L) (o : Obj) : d.R e (w.alloc o) B (fun _ => True) v L := Kd.R_alloc h o
/-- What a copy of a case says. -/
def NewCs (w : World) (k : Cs) (v : Value) (w' : World) : Prop := ∃ A c, v = k.val A c ∧ NewI16 w k.hs (.slice A k.hs.length c) w'
set_option maxHeartbeats 1000000 in
theorem toCase_c (k : Cs) (A : Option Addr) (c : Nat) (w : World) (hC : (Kd.int .i16).C w A k.hs.length k.hs) (hn : k.hs.length ≤ 2097152) :
    Calls Tryd.prog 32 #[k.val A c] w (RetQ w (NewCs w k)) := by
  have HC := Aside0.mk hC
  have HN := Aside0.mk hn
  clear hC hn
  simp only [Cs.val]
  go_enter Tryd.func32, Tryd.ntmps32
  go_wp2_with fail
  refine (toInt16S_c A c k.hs _ (Kd.C_alloc (Kd.C_alloc (Kd.C_alloc HC.out _) _) _) HN.out).mono ?_; rintro _ w1 ⟨v, rfl, hb1, hv⟩
  have HB1 := Aside0.mk (show Below w.heap.size w w1 from bstep (balloc (balloc (balloc (Below.refl _ _) _) _) _) hb1)
  obtain ⟨A1, c1_, rfl, hlc, _⟩ := hv.open
  have HV := Aside0.mk hv
  have hz := hb1.size
  simp only [World.size_alloc] at hz
  have g1 := blk_below (blk_alloc (blk_new (w.alloc (.cells #[.int .i16 k.wd, .int .i32 k.ld, .slice A k.hs.length c] 51)) (.cells #[.int .i16 0, .int .i32 0, .slice none 0 0] 54)) (.cells #[.int .i16 k.wd, .int .i32 k.ld, .slice none 0 0] 54)) hb1
  have g2 := blk_below (blk_new ((w.alloc (.cells #[.int .i16 k.wd, .int .i32 k.ld, .slice A k.hs.length c] 51)).alloc (.cells #[.int .i16 0, .int .i32 0, .slice none 0 0] 54)) (.cells #[.int .i16 k.wd, .int .i32 k.ld, .slice none 0 0] 54)) hb1
  simp only [World.size_alloc] at g1 g2
  have c0 := blk_cell g2 0
  have c1 := blk_cell g2 1
  have c2 := blk_cell g2 2
  have d0 := blk_cell g1 0
  have d1 := blk_cell g1 1
  have d2 := blk_cell g1 2
  have f0 := blk_frozen g2 0
  have f1 := blk_frozen g2 1
  have f2 := blk_frozen g2 2
  have e0 := blk_frozen g1 0
  have e1 := blk_frozen g1 1
  have e2 := blk_frozen g1 2
  simp only [List.getElem?_toArray, List.getElem?_cons_zero, List.getElem?_cons_succ] at c0 c1 c2 d0 d1 d2
  clear g1 g2 hb1 hv
  have HV2 := Aside0.mk (show (Kd.int .i16).R 22 w1 (w.heap.size + 1 + 1 + 1) (fun _ => True) (.slice A1 k.hs.length c1_) k.hs by have := HV.out; unfold NewI16 at this; simpa only [World.size_alloc] using this)
  clear HV
  go_wp2_with fail
  have HR := Aside0.mk (new_far (new_far (new_far (new_far HV2.out (p := ⟨w.heap.size + 1 + 1, 2, none⟩) (by simp) (.slice A1 k.hs.length c1_)) (p := ⟨w.heap.size + 1, 0, none⟩) (by simp) (.int .i16 k.wd)) (p := ⟨w.heap.size + 1, 1, none⟩) (by simp) (.int .i32 k.ld)) (p := ⟨w.heap.size + 1, 2, none⟩) (by simp) (.slice A1 k.hs.length c1_))
  have HB2 := Aside0.mk (Below.setCell (Below.setCell (Below.setCell (Below.setCell HB1.out (p := ⟨w.heap.size + 1 + 1, 2, none⟩) (by simp; omega) (.slice A1 k.hs.length c1_)) (p := ⟨w.heap.size + 1, 0, none⟩) (by simp) (.int .i16 k.wd)) (p := ⟨w.heap.size + 1, 1, none⟩) (by simp) (.int .i32 k.ld)) (p := ⟨w.heap.size + 1, 2, none⟩) (by simp) (.slice A1 k.hs.length c1_))
  exact bodyPost_ret (v := .agg #[.int .i16 k.wd, .int .i32 k.ld, .slice A1 k.hs.length c1_]) (by simp [results, Tryd.results32, go_sem, d0, d1, d2, e0, e1, e2, hz]) rfl ⟨_, rfl, HB2.out, A1, c1_, rfl, Kd.R_lower HR.out (by omega)⟩
set_option maxHeartbeats 1000000 in
theorem eqCase_c (k k' : Cs) (A A' : Option Addr) (c c' : Nat) (w : World) (hC : (Kd.int .i16).C w A k.hs.length k.hs) (hC' : (Kd.int .i16).C w A' k'.hs.length k'.hs) :
    Calls Tryd.prog 34 #[k.val A c, k'.val A' c'] w (Ret w (.bool (decide (k = k')))) := by
  have HC := Aside0.mk (eqInt16S_c A A' c c' k.hs k'.hs _ (Kd.C_alloc (Kd.C_alloc hC (.cells #[.int .i16 k.wd, .int .i32 k.ld, .slice A k.hs.length c] 54)) (.cells #[.int .i16 k'.wd, .int .i32 k'.ld, .slice A' k'.hs.length c'] 54)) (Kd.C_alloc (Kd.C_alloc hC' (.cells #[.int .i16 k.wd, .int .i32 k.ld, .slice A k.hs.length c] 54)) (.cells #[.int .i16 k'.wd, .int .i32 k'.ld, .slice A' k'.hs.length c'] 54)))
  have HE := Aside0.mk (show decide (k = k') = (decide (k.wd = k'.wd) && (decide (k.ld = k'.ld) && decide (k.hs = k'.hs))) by
    obtain ⟨a, b, l⟩ := k
    obtain ⟨a', b', l'⟩ := k'
    rw [Bool.eq_iff_iff]; simp)
  have HB := Aside0.mk (balloc (balloc (Below.refl w.heap.size w) (.cells #[.int .i16 k.wd, .int .i32 k.ld, .slice A k.hs.length c] 54)) (.cells #[.int .i16 k'.wd, .int .i32 k'.ld, .slice A' k'.hs.length c'] 54))
  clear hC hC'
  simp only [Cs.val]
  by_cases h0 : k.wd = k'.wd
  · have b0 : (k.wd != k'.wd) = false := by simp [h0]
    by_cases h1 : k.ld = k'.ld
    · have b1 : (k.ld != k'.ld) = false := by simp [h1]
      rw [decide_eq_true h0, decide_eq_true h1, Bool.true_and, Bool.true_and] at HE
      clear h0 h1
      cases h2 : decide (k.hs = k'.hs)
      · rw [h2] at HC HE
        clear h2
        go_enter Tryd.func34, Tryd.ntmps34
        go_wp2_with fail
        refine HC.out.mono ?_; rintro _ w1 ⟨rfl, hb1⟩
        have HB1 := Aside0.mk (bstep HB.out hb1)
        clear hb1
        go_wp2_with fail
        go_ret
        exact ⟨ret_bool HE.out.symm, HB1.out⟩
      · rw [h2] at HC HE
        clear h2
        go_enter Tryd.func34, Tryd.ntmps34
        go_wp2_with fail
        refine HC.out.mono ?_; rintro _ w1 ⟨rfl, hb1⟩
        have HB1 := Aside0.mk (bstep HB.out hb1)
        clear hb1
        go_wp2_with fail
        go_ret
        exact ⟨ret_bool HE.out.symm, HB1.out⟩
    · have b1 : (k.ld != k'.ld) = true := by simp [h1]
      rw [decide_eq_false h1, Bool.false_and, Bool.and_false] at HE
      clear h0 h1
      go_enter Tryd.func34, Tryd.ntmps34
      go_wp2_with fail
      go_ret
      exact ⟨ret_bool HE.out.symm, HB.out⟩
  · have b0 : (k.wd != k'.wd) = true := by simp [h0]
    rw [decide_eq_false h0, Bool.false_and] at HE
    clear h0
    go_enter Tryd.func34, Tryd.ntmps34
    go_wp2_with fail
    go_ret
    exact ⟨ret_bool HE.out.symm, HB.out⟩
/-- The heights of a case are marked. -/
theorem markCase_c (k : Cs) (A : Option Addr) (c : Nat) (m : Int) (w0 w : World) (hO : Own (Kd.int .i16) 22 w0 w (.slice A k.hs.length c) k.hs) (h0 : 0 ≤ m) (h1 : m ≤ 1000000000) (hn : k.hs.length ≤ 2097152) :
    Calls Tryd.prog 41 #[k.val A c, .int .i64 m] w (Marked (Kd.int .i16) 22 w0 w (.slice A k.hs.length c) ((upI m k.hs.length).map (fun x => IntKind.i16.wrap x)) (m + k.hs.length)) := by
  have HM := Aside0.mk (markInt16S_c A c k.hs m w0 _ (Own.below hO (balloc (Below.refl _ _) (.cells #[.int .i16 k.wd, .int .i32 k.ld, .slice A k.hs.length c] 54))) h0 h1 hn)
  have HG := Aside0.mk (grown_of_below (balloc (Below.refl w.heap.size w) (.cells #[.int .i16 k.wd, .int .i32 k.ld, .slice A k.hs.length c] 54)) (Value.slice A k.hs.length c).ownBlock)
  clear hO
  simp only [Cs.val]
  go_enter Tryd.func41, Tryd.ntmps41
  go_wp2_with fail
  refine HM.out.mono ?_; rintro _ w1 ⟨rfl, ho, hg⟩
  have HO := Aside0.mk ho
  have HG1 := Aside0.mk (World.grownBy.trans HG.out hg)
  clear ho hg
  go_wp2_with fail
  go_ret
  exact ⟨rfl, HO.out, HG1.out⟩
end Go.Proofs.YtgibcacciedobaaDoor
